/- What person.Parse answers, and that it does. Conditions: the length of the text. -/
import Derived.Test.YtmcoomlkbgiboaaGreatDoorK02
import Derived.Test.YtmcoomlkbgiboaaGreatDoorK16
import Derived.Test.YtmcoomlkbgiboaaGreatDoorK15
import Derived.Test.YtmcoomlkbgiboaaGreatDoorK03
import Derived.Test.YtmcoomlkbgiboaaGreatDoorK06
import Derived.Deep.RegionWith

set_option linter.all false
namespace Go.Proofs.YtmcoomlkbgiboaaGreatDoor
open Go.RowKit

abbrev P4:=Bs × Bs × Bs × Bs
abbrev p4V (q:P4):Value:=persV q.1 q.2.1 q.2.2.1 q.2.2.2
def badP (p t:Bs):Prop:=2<t.count 44∨p.any (inSet setC)=true∨t.any (inSet setN)=true
instance (p t:Bs):Decidable (badP p t):=by unfold badP; infer_instance
end Go.Proofs.YtmcoomlkbgiboaaGreatDoor

/- Slices of persons; person.List. Conditions: lengths. -/
set_option linter.all false
namespace Go.Proofs.YtmcoomlkbgiboaaGreatDoor
open Go.RowKit

/-- The slice value v reads in w as the persons ps. -/
def Perss (w:World) (v:Value) (ps:List P4):Prop :=
 ∃ a c,v=.slice a ps.length c∧ps.length≤c∧(0<ps.length→∃ g o,a=some ⟨g,o,none⟩∧g<w.heap.size∧∀ j q,ps[j]? = some q →
  w.cell? ⟨g,o+j * 4,none⟩=some (.string (bs q.1))∧w.cell? ⟨g,o+j * 4+1,none⟩=some (.string (bs q.2.1))∧w.cell? ⟨g,o+j * 4+2,none⟩=some (.string (bs q.2.2.1))∧w.cell? ⟨g,o+j * 4+3,none⟩=some (.string (bs q.2.2.2)))
theorem Perss.kept {w w':World} {v:Value} {ps:List P4} (h:Perss w v ps) (k:Kept w w'):Perss w' v ps:=by
 obtain ⟨a,c,hv,hc,h3⟩:=h
 refine ⟨a,c,hv,hc,fun q=>?_⟩
 obtain ⟨g,o,ha,hg,hcell⟩:=h3 q
 refine ⟨g,o,ha,Nat.lt_of_lt_of_le hg k.size,fun j x hx=>?_⟩
 obtain ⟨c0,c1,c2,c3⟩:=hcell j x hx
 exact ⟨(k.cell (p:=⟨g,o+j * 4,none⟩) hg).trans c0,(k.cell (p:=⟨g,o+j * 4+1,none⟩) hg).trans c1,(k.cell (p:=⟨g,o+j * 4+2,none⟩) hg).trans c2,(k.cell (p:=⟨g,o+j * 4+3,none⟩) hg).trans c3⟩
theorem Perss.cut {w:World} {a:Option Addr} {c:Nat} {ps:List P4} (h:Perss w (.slice a ps.length c) ps) (n:Nat) (hn:n≤ps.length):Perss w (.slice a n c) (ps.take n):=by
 obtain ⟨a',c',hv,hc,h3⟩:=h
 obtain ⟨rfl,_,rfl⟩:=Value.slice.inj hv
 refine ⟨a,c,by simp; omega,by simp; omega,fun q=>?_⟩
 obtain ⟨g,o,ha,hg,hcell⟩:=h3 (by simp at q; omega)
 refine ⟨g,o,ha,hg,fun j x hx=>hcell j x ?_⟩
 rw [List.getElem?_take] at hx
 split at hx
 ·exact hx
 ·cases hx

/-- The name of a person in a list. -/
def nameOf (full:Bool) (q:P4):Bs:=if full then joinedL [q.2.1,q.2.2.1,q.1,q.2.2.2] else joinedL [q.2.2.1,q.1]
def langOf (l:Bs):Bs:=if (andOf l).isSome then l else lEn
/-- The list of persons. -/
def plistL (ps:List P4) (l:Bs) (most:Int) (full:Bool):Bs :=
 if 1≤most∧most<ps.length then Lib.join ((ps.take most.toNat).map (nameOf full)) sepL ++ [32] ++ (andOf (langOf l)).getD [] ++ [32] ++ (othersOf (langOf l)).getD []
 else llistL (langOf l) (ps.map (nameOf full))
def size4 (q:P4):Nat:=q.1.length+q.2.1.length+q.2.2.1.length+q.2.2.2.length
theorem nameOf_le (full:Bool) (q:P4):(nameOf full q).length≤size4 q+4:=by
 unfold nameOf size4
 cases full
 ·have:=joinedL_le [q.2.2.1,q.1]; simp [bulk] at this; simp; omega
 ·have:=joinedL_le [q.2.1,q.2.2.1,q.1,q.2.2.2]; simp [bulk] at this; simp; omega
theorem join_sep_le (m:Nat):∀ xs:List Bs,(∀ x∈xs,x.length≤m)→(Lib.join xs sepL).length≤xs.length * (m+2)
 | [],_=>by rw [Lib.join_nil]; simp
 | x :: xs,h=>by
  have ht:∀ r:List Bs,(∀ x∈r,x.length≤m)→(Lib.joinTail sepL r).length≤r.length * (m+2):=by
   intro r
   induction r with
   | nil=>intro _; simp [Lib.joinTail]
   | cons b r ih =>
    intro hr
    have h1:=ih (fun x hx=>hr x (by simp [hx]))
    have h2:=hr b (by simp)
    unfold Lib.joinTail at h1 ⊢
    simp only [List.map_cons,List.flatten_cons,List.length_append,List.length_cons,Nat.add_mul,Nat.one_mul]
    simp only [sepL,List.length_cons,List.length_nil] at h1 ⊢
    omega
  have h1:=ht xs (fun x hx=>h x (by simp [hx]))
  have h2:=h x (by simp)
  rw [Lib.join_cons]
  simp only [List.length_append,List.length_cons,Nat.add_mul,Nat.one_mul]
  omega
theorem map_take (f:P4→Bs) (ps:List P4) (k:Nat) (q:P4) (h:ps[k]? = some q):(ps.take (k+1)).map f=(ps.take k).map f ++ [f q]:=by
 obtain ⟨hk,rfl⟩:=List.getElem?_eq_some_iff.1 h
 rw [List.take_succ_eq_append_getElem hk,List.map_append]; rfl
theorem names_le (full:Bool) (ps:List P4) (h:∀ q∈ps,size4 q≤10000):∀ x∈ps.map (nameOf full),x.length≤10004:=by
 intro x hx
 obtain ⟨q,hq,rfl⟩:=List.mem_map.1 hx
 have:=nameOf_le full q; have:=h q hq; omega
theorem name_full (w:World) (q:P4) (h:size4 q≤10000):Calls Tryz.prog 163 #[p4V q] w fun e w'=>e=.returned (.string (bs (nameOf true q)))∧Kept w w' :=
 full_any q.1 q.2.1 q.2.2.1 q.2.2.2 w (by unfold size4 at h; simp [bulk]; omega)
theorem name_short (w:World) (q:P4) (h:size4 q≤10000):Calls Tryz.prog 136 #[p4V q] w fun e w'=>e=.returned (.string (bs (nameOf false q)))∧Kept w w' :=
 short_any q.1 q.2.1 q.2.2.1 q.2.2.2 w (by unfold size4 at h; simp [bulk]; omega)
theorem othersOf_len (l:Bs):((othersOf l).getD []).length≤6:=by
 unfold othersOf
 by_cases h1:l=lEn
 ·rw [if_pos h1]; decide
 by_cases h2:l=lDe
 ·rw [if_neg h1,if_pos h2]; decide
 by_cases h3:l=lFr
 ·rw [if_neg h1,if_neg h2,if_pos h3]; decide
 by_cases h4:l=lEs
 ·rw [if_neg h1,if_neg h2,if_neg h3,if_pos h4]; decide
 ·rw [if_neg h1,if_neg h2,if_neg h3,if_neg h4]; decide

set_option maxRecDepth 100000 in
set_option maxHeartbeats 3200000 in
theorem plist_ks (v:Value) (ps:List P4) (l:Bs) (most:Int) (full:Bool) (w:World) (hv:Perss w v ps) (hN:ps.length≤900) (hq:∀ q∈ps,size4 q≤10000) (hk:(andOf l).isSome=true) (hm1:1≤most) (hm2:most<ps.length) (hmr : -9223372036854775808≤most∧most≤9223372036854775807) :
  Calls Tryz.prog 119 #[v,.string (bs l),.int .i64 most,.bool full] w fun e w'=>e=.returned (.string (bs (Lib.join ((ps.take most.toNat).map (nameOf full)) sepL ++ [32] ++ (andOf l).getD [] ++ [32] ++ (othersOf l).getD [])))∧Kept w w':=by
 obtain ⟨i0,hi,hz0,hz1,hz2⟩:=info_parts Tryz.infoStr
 have HV:=Lib.hid hv
 have HQ:=Lib.hid hq
 clear hq
 obtain ⟨a,c,rfl,hc,h3⟩:=hv
 clear h3
 obtain ⟨an0,HT⟩:∃ an0,Hid (∀ w,Calls Tryz.prog 162 #[.string (bs l),.string (bs [97,110,100]),.int .i64 1] w fun e w'=>e=.returned (.tuple #[.string (bs an0),.bool true])∧Kept w w') :=
  ⟨_,fun w=>by have:=term_and l 1 w; rw [hk] at this; exact this⟩
 clear hk
 obtain ⟨m,rfl⟩:∃ m:Nat,most=m:=⟨most.toNat,by omega⟩
 obtain ⟨xs,hxs⟩:∃ xs,xs=ps.take m:=⟨_,rfl⟩
 have hxl:xs.length=m:=by rw [hxs]; simp; omega
 have HX:Hid (Perss w (.slice a m c) xs):=by show Perss _ _ _; rw [hxs]; exact HV.out.cut m (by omega)
 have HXQ:Hid (∀ q∈xs,size4 q≤10000):=by intro q h; rw [hxs] at h; exact HQ.out q (List.mem_of_mem_take h)
 have HE:Hid (Lib.join ((ps.take ((m:Int)).toNat).map (nameOf full)) sepL=Lib.join (xs.map (nameOf full)) sepL):=by show _=_; rw [hxs]; simp
 have HLEN:=Lib.hid hxl
 have hml:m≤900:=by omega
 clear hxs hxl hc
 have hc:m≤c:=by obtain ⟨a',c',hv,hc,h3⟩:=HX.out; obtain ⟨_,h1,h2⟩:=Value.slice.inj hv; omega
 have HA:=Lib.hid (fun w=>term_and l 1 w)
 have HO:=Lib.hid (fun w=>term_others l 2 w)
 have hal:=andOf_len l
 have hol:=othersOf_len l
 have HSP:Hid (sepL=[44,32]):=rfl
 generalize (andOf l).getD []=an at *
 generalize (andOf l).isSome=an1 at *
 generalize (othersOf l).getD []=ot at *
 generalize (othersOf l).isSome=ot1 at *
 have hm1':decide ((1:Int)≤(m:Int))=true:=by simpa using hm1
 have hm2':decide (m<ps.length)=true:=by simp; omega
 have hm3:1≤m:=by omega
 have hm4:m<ps.length:=by omega
 clear hm1 hm2 hmr
 go_enter Tryz.func119,Tryz.ntmps119
 go_wp2_with fail
 refine (HT.out _).mono ?_
 rintro e w1 ⟨rfl,hk1⟩
 have HK1:=Lib.hid hk1
 clear hk1
 go_wp2_with fail
 go_loopw [12,40] (fun v i wr=>∃ (k:Nat),k≤m∧i=.int .i64 k∧wr.ownsRow w1.heap.size 9 1 v ((xs.take k).map (nameOf full)).length (strCells ((xs.take k).map (nameOf full)))∧Kept w1 wr) (fun _ i _=>m - (intOf i).toNat)
 case atStart=>exact ⟨0,Nat.zero_le _,rfl,World.ownsRow_nil _ _ _ _,Kept.refl _⟩
 case round =>
  obtain ⟨k,hkl,rfl,hown,hkr⟩:=hrel
  by_cases hlt:k<m
  ·obtain ⟨q,hx⟩:∃ x,xs[k]? = some x:=⟨_,List.getElem?_eq_getElem (by rw [HLEN.out]; exact hlt)⟩
   obtain ⟨a',c',hv',hc',h3⟩:=(HX.out.kept HK1.out).kept hkr
   obtain ⟨rfl,hdead,rfl⟩:=Value.slice.inj hv'
   clear hdead
   obtain ⟨g,o,rfl,hg,hcc⟩:=h3 (by rw [HLEN.out]; omega)
   obtain ⟨c0,c1,c2,c3⟩:=hcc k q hx
   have hqs:=HXQ.out q (List.mem_of_getElem? hx)
   have HF:=Lib.hid (map_take (nameOf full) xs k q hx)
   have hfl:((xs.take k).map (nameOf full)).length≤k:=by simp; omega
   generalize (xs.take k).map (nameOf full)=ws at *
   have hsz:w1.heap.size≤wr.heap.size:=hkr.size
   have HR:=Lib.hid hkr
   have HW:=Lib.hid hown
   have HNF:=Lib.hid (fun w=>name_full w q hqs)
   have HNS:=Lib.hid (fun w=>name_short w q hqs)
   clear hkr hx hown hcc h3 hv' hc'
   obtain ⟨qf,qg,qp,qs⟩:=q
   simp only at c0 c1 c2 c3
   cases full
   ·have HNAME:=HNS
    clear HNF HNS
    go_wp2_with fail
    refine (HNAME.out _).mono ?_
    rintro e w2 ⟨rfl,hk2⟩
    generalize nameOf false (qf,qg,qp,qs)=nm at *
    have hown:=own_kept (HW.out.alloc (.cells #[.string (bs qf),.string (bs qg),.string (bs qp),.string (bs qs)] 77)) hk2
    have HR2:=Lib.hid ((HR.out.trans (kept_alloc wr _)).trans hk2)
    have hsz2:w1.heap.size≤w2.heap.size:=HR2.out.size
    clear hk2
    go_wp2_with (at_builtin; refine wpList_append_own _ rfl _ _ 29 rfl w1.heap.size 9 i0 (.string ⟨#[]⟩) 1 16 Tryz.underlying29 hi hz0 hz1 hz2 rfl (by decide) _ _ _ rfl (hown.alloc _) ⟨w2.heap.size,0,none⟩ 1 1 [.string (bs nm)] rfl rfl ?_ ?_ ?_ ?_ ?_ ?_)
    ·exact new_cells _ #[.string (bs nm)] _ _ (by simp)
    ·intro u hu; simp at hu; subst hu; rfl
    ·unfold maxLen; omega
    ·omega
    ·simp; omega
    intro v' w3 hown2 hgrow _
    have HB2:=Lib.hid ((HR2.out.trans (kept_alloc w2 _)).trans' (grown_below (hown.alloc _) hgrow (by simp; omega)))
    rw [← strCells_snoc] at hown2
    have HO:=Lib.hid hown2
    clear hown2 hgrow hown
    go_wp2_with fail
    go_roundw
    case rel=>exact ⟨k+1,by omega,by go_num,by rw [HF.out]; simpa using HO.out,HB2.out⟩
    case measure=>simp [intOf]; omega
   ·have HNAME:=HNF
    clear HNF HNS
    go_wp2_with fail
    refine (HNAME.out _).mono ?_
    rintro e w2 ⟨rfl,hk2⟩
    generalize nameOf true (qf,qg,qp,qs)=nm at *
    have hown:=own_kept (HW.out.alloc (.cells #[.string (bs qf),.string (bs qg),.string (bs qp),.string (bs qs)] 77)) hk2
    have HR2:=Lib.hid ((HR.out.trans (kept_alloc wr _)).trans hk2)
    have hsz2:w1.heap.size≤w2.heap.size:=HR2.out.size
    clear hk2
    go_wp2_with (at_builtin; refine wpList_append_own _ rfl _ _ 29 rfl w1.heap.size 9 i0 (.string ⟨#[]⟩) 1 16 Tryz.underlying29 hi hz0 hz1 hz2 rfl (by decide) _ _ _ rfl (hown.alloc _) ⟨w2.heap.size,0,none⟩ 1 1 [.string (bs nm)] rfl rfl ?_ ?_ ?_ ?_ ?_ ?_)
    ·exact new_cells _ #[.string (bs nm)] _ _ (by simp)
    ·intro u hu; simp at hu; subst hu; rfl
    ·unfold maxLen; omega
    ·omega
    ·simp; omega
    intro v' w3 hown2 hgrow _
    have HB2:=Lib.hid ((HR2.out.trans (kept_alloc w2 _)).trans' (grown_below (hown.alloc _) hgrow (by simp; omega)))
    rw [← strCells_snoc] at hown2
    have HO:=Lib.hid hown2
    clear hown2 hgrow hown
    go_wp2_with fail
    go_roundw
    case rel=>exact ⟨k+1,by omega,by go_num,by rw [HF.out]; simpa using HO.out,HB2.out⟩
    case measure=>simp [intOf]; omega
  ·have HW:=Lib.hid (Strs.own hown)
   have HR:=Lib.hid (HK1.out.trans hkr)
   rw [List.take_of_length_le (by rw [HLEN.out]; omega)] at HW
   have hnl:(xs.map (nameOf full)).length≤900:=by rw [List.length_map,HLEN.out]; exact hml
   have hjl:=join_sep_le 10004 _ (names_le full xs HXQ.out)
   have hjd:=join_sep_le 10004 (xs.map (nameOf full)).dropLast (fun x hx=>names_le full xs HXQ.out x ((List.dropLast_sublist _).subset hx))
   have hll:((xs.map (nameOf full)).getLastD []).length≤10004:=by
    cases hq:(xs.map (nameOf full)).getLast? with
    | none=>rw [List.getLastD_eq_getLast?,hq]; simp
    | some y=>rw [List.getLastD_eq_getLast?,hq]; exact names_le full xs HXQ.out y (List.mem_of_getLast? hq)
   have hdl:(xs.map (nameOf full)).dropLast.length≤900:=by simp at hnl ⊢; omega
   clear hown hkr
   have hj1:(Lib.join (xs.map (nameOf full)) sepL).length≤10000000:=by
    have:=Nat.mul_le_mul_right 10006 hnl; omega
   have hj2:(Lib.join (xs.map (nameOf full)).dropLast sepL).length≤10000000:=by
    have:=Nat.mul_le_mul_right 10006 hdl; omega
   clear hjl hjd hdl
   go_wp2_with fail
   refine (HA.out _).mono ?_
   rintro e w2 ⟨rfl,hk2⟩
   have HR2:=Lib.hid (HR.out.trans hk2)
   have HW2:=Lib.hid (HW.out.kept hk2)
   clear hk2
   go_wp2_with fail
   refine (HO.out _).mono ?_
   rintro e w3 ⟨rfl,hk3⟩
   have HR3:=Lib.hid (HR2.out.trans hk3)
   have HW3:=Lib.hid (HW2.out.kept hk3)
   clear hk3
   go_wp2_with fail
   rw [← HSP.out]
   refine (join_any _ _ _ _ HW3.out (by omega) (by omega)).mono ?_
   rintro e w4 ⟨rfl,hk4⟩
   have HR4:=Lib.hid (HR3.out.trans hk4)
   clear hk4
   generalize Lib.join (xs.map (nameOf full)) sepL=jj at *
   go_wp2_with fail
   go_ret
   exact ⟨ret_bs (by rw [HE.out]; simp),HR4.out⟩

set_option maxRecDepth 100000 in
set_option maxHeartbeats 3200000 in
theorem plist_kn (v:Value) (ps:List P4) (l:Bs) (most:Int) (full:Bool) (w:World) (hv:Perss w v ps) (hN:ps.length≤900) (hq:∀ q∈ps,size4 q≤10000) (hk:(andOf l).isSome=true) (hm:¬ (1≤most∧most<ps.length)) (hmr : -9223372036854775808≤most∧most≤9223372036854775807) :
  Calls Tryz.prog 119 #[v,.string (bs l),.int .i64 most,.bool full] w fun e w'=>e=.returned (.string (bs (llistL l (ps.map (nameOf full)))))∧Kept w w':=by
 obtain ⟨i0,hi,hz0,hz1,hz2⟩:=info_parts Tryz.infoStr
 have HV:=Lib.hid hv
 have HQ:=Lib.hid hq
 clear hq
 obtain ⟨a,c,rfl,hc,h3⟩:=hv
 clear h3
 obtain ⟨an0,HT⟩:∃ an0,Hid (∀ w,Calls Tryz.prog 162 #[.string (bs l),.string (bs [97,110,100]),.int .i64 1] w fun e w'=>e=.returned (.tuple #[.string (bs an0),.bool true])∧Kept w w') :=
  ⟨_,fun w=>by have:=term_and l 1 w; rw [hk] at this; exact this⟩
 clear hk
 obtain ⟨m,hm0⟩:∃ m:Nat,m=ps.length:=⟨_,rfl⟩
 obtain ⟨xs,hxs⟩:∃ xs,xs=ps:=⟨_,rfl⟩
 have HX:Hid (Perss w (.slice a m c) xs):=by show Perss _ _ _; rw [hxs,hm0]; exact HV.out
 have HXQ:Hid (∀ q∈xs,size4 q≤10000):=by intro q h; rw [hxs] at h; exact HQ.out q h
 have HE:Hid (ps=xs):=hxs.symm
 have HLEN:Hid (xs.length=m):=by show _=_; rw [hxs,hm0]
 have hml:m≤900:=by omega
 rw [← hm0] at hm hc
 rw [← hm0]
 clear hxs
 have HM0:=Lib.hid hm0
 clear hm0 hN
 by_cases hm1:1≤most
 ·have hm1':decide ((1:Int)≤most)=true:=by simpa using hm1
  have hm2':decide (most<(m:Int))=false:=by simp; omega
  have hm3:¬ most<(m:Int):=by omega
  clear hm
  go_enter Tryz.func119,Tryz.ntmps119
  go_wp2_with fail
  refine (HT.out _).mono ?_
  rintro e w1 ⟨rfl,hk1⟩
  have HK1:=Lib.hid hk1
  clear hk1
  go_wp2_with fail
  go_loopw [12,40] (fun v i wr=>∃ (k:Nat),k≤m∧i=.int .i64 k∧wr.ownsRow w1.heap.size 9 1 v ((xs.take k).map (nameOf full)).length (strCells ((xs.take k).map (nameOf full)))∧Kept w1 wr) (fun _ i _=>m - (intOf i).toNat)
  case atStart=>exact ⟨0,Nat.zero_le _,rfl,World.ownsRow_nil _ _ _ _,Kept.refl _⟩
  case round =>
   obtain ⟨k,hkl,rfl,hown,hkr⟩:=hrel
   by_cases hlt:k<m
   ·obtain ⟨q,hx⟩:∃ x,xs[k]? = some x:=⟨_,List.getElem?_eq_getElem (by rw [HLEN.out]; exact hlt)⟩
    obtain ⟨a',c',hv',hc',h3⟩:=(HX.out.kept HK1.out).kept hkr
    obtain ⟨rfl,hdead,rfl⟩:=Value.slice.inj hv'
    clear hdead
    obtain ⟨g,o,rfl,hg,hcc⟩:=h3 (by rw [HLEN.out]; omega)
    obtain ⟨c0,c1,c2,c3⟩:=hcc k q hx
    have hqs:=HXQ.out q (List.mem_of_getElem? hx)
    have HF:=Lib.hid (map_take (nameOf full) xs k q hx)
    have hfl:((xs.take k).map (nameOf full)).length≤k:=by simp; omega
    generalize (xs.take k).map (nameOf full)=ws at *
    have hsz:w1.heap.size≤wr.heap.size:=hkr.size
    have HR:=Lib.hid hkr
    have HW:=Lib.hid hown
    have HNF:=Lib.hid (fun w=>name_full w q hqs)
    have HNS:=Lib.hid (fun w=>name_short w q hqs)
    clear hkr hx hown hcc h3 hv' hc'
    obtain ⟨qf,qg,qp,qs⟩:=q
    simp only at c0 c1 c2 c3
    cases full
    ·have HNAME:=HNS
     clear HNF HNS
     go_wp2_with fail
     refine (HNAME.out _).mono ?_
     rintro e w2 ⟨rfl,hk2⟩
     generalize nameOf false (qf,qg,qp,qs)=nm at *
     have hown:=own_kept (HW.out.alloc (.cells #[.string (bs qf),.string (bs qg),.string (bs qp),.string (bs qs)] 77)) hk2
     have HR2:=Lib.hid ((HR.out.trans (kept_alloc wr _)).trans hk2)
     have hsz2:w1.heap.size≤w2.heap.size:=HR2.out.size
     clear hk2
     go_wp2_with (at_builtin; refine wpList_append_own _ rfl _ _ 29 rfl w1.heap.size 9 i0 (.string ⟨#[]⟩) 1 16 Tryz.underlying29 hi hz0 hz1 hz2 rfl (by decide) _ _ _ rfl (hown.alloc _) ⟨w2.heap.size,0,none⟩ 1 1 [.string (bs nm)] rfl rfl ?_ ?_ ?_ ?_ ?_ ?_)
     ·exact new_cells _ #[.string (bs nm)] _ _ (by simp)
     ·intro u hu; simp at hu; subst hu; rfl
     ·unfold maxLen; omega
     ·omega
     ·simp; omega
     intro v' w3 hown2 hgrow _
     have HB2:=Lib.hid ((HR2.out.trans (kept_alloc w2 _)).trans' (grown_below (hown.alloc _) hgrow (by simp; omega)))
     rw [← strCells_snoc] at hown2
     have HO:=Lib.hid hown2
     clear hown2 hgrow hown
     go_wp2_with fail
     go_roundw
     case rel=>exact ⟨k+1,by omega,by go_num,by rw [HF.out]; simpa using HO.out,HB2.out⟩
     case measure=>simp [intOf]; omega
    ·have HNAME:=HNF
     clear HNF HNS
     go_wp2_with fail
     refine (HNAME.out _).mono ?_
     rintro e w2 ⟨rfl,hk2⟩
     generalize nameOf true (qf,qg,qp,qs)=nm at *
     have hown:=own_kept (HW.out.alloc (.cells #[.string (bs qf),.string (bs qg),.string (bs qp),.string (bs qs)] 77)) hk2
     have HR2:=Lib.hid ((HR.out.trans (kept_alloc wr _)).trans hk2)
     have hsz2:w1.heap.size≤w2.heap.size:=HR2.out.size
     clear hk2
     go_wp2_with (at_builtin; refine wpList_append_own _ rfl _ _ 29 rfl w1.heap.size 9 i0 (.string ⟨#[]⟩) 1 16 Tryz.underlying29 hi hz0 hz1 hz2 rfl (by decide) _ _ _ rfl (hown.alloc _) ⟨w2.heap.size,0,none⟩ 1 1 [.string (bs nm)] rfl rfl ?_ ?_ ?_ ?_ ?_ ?_)
     ·exact new_cells _ #[.string (bs nm)] _ _ (by simp)
     ·intro u hu; simp at hu; subst hu; rfl
     ·unfold maxLen; omega
     ·omega
     ·simp; omega
     intro v' w3 hown2 hgrow _
     have HB2:=Lib.hid ((HR2.out.trans (kept_alloc w2 _)).trans' (grown_below (hown.alloc _) hgrow (by simp; omega)))
     rw [← strCells_snoc] at hown2
     have HO:=Lib.hid hown2
     clear hown2 hgrow hown
     go_wp2_with fail
     go_roundw
     case rel=>exact ⟨k+1,by omega,by go_num,by rw [HF.out]; simpa using HO.out,HB2.out⟩
     case measure=>simp [intOf]; omega
   ·have HW:=Lib.hid (Strs.own hown)
    have HR:=Lib.hid (HK1.out.trans hkr)
    rw [List.take_of_length_le (by rw [HLEN.out]; omega)] at HW
    have hnl:(xs.map (nameOf full)).length≤900:=by rw [List.length_map,HLEN.out]; exact hml
    have hjl:=join_sep_le 10004 _ (names_le full xs HXQ.out)
    have hjd:=join_sep_le 10004 (xs.map (nameOf full)).dropLast (fun x hx=>names_le full xs HXQ.out x ((List.dropLast_sublist _).subset hx))
    have hll:((xs.map (nameOf full)).getLastD []).length≤10004:=by
     cases hq:(xs.map (nameOf full)).getLast? with
     | none=>rw [List.getLastD_eq_getLast?,hq]; simp
     | some y=>rw [List.getLastD_eq_getLast?,hq]; exact names_le full xs HXQ.out y (List.mem_of_getLast? hq)
    have hdl:(xs.map (nameOf full)).dropLast.length≤900:=by simp at hnl ⊢; omega
    clear hown hkr
    have hj1:(Lib.join (xs.map (nameOf full)) sepL).length≤10000000:=by
     have:=Nat.mul_le_mul_right 10006 hnl; omega
    have hj2:(Lib.join (xs.map (nameOf full)).dropLast sepL).length≤10000000:=by
     have:=Nat.mul_le_mul_right 10006 hdl; omega
    clear hjl hjd hdl
    go_wp2_with fail
    refine (llist_any l _ _ _ HW.out (by omega) hj1 hj2 (by omega)).mono ?_
    rintro e w2 ⟨rfl,hk2⟩
    have HR2:=Lib.hid (HR.out.trans hk2)
    clear hk2
    go_wp2_with fail
    go_ret
    exact ⟨ret_bs (by rw [HE.out]),HR2.out⟩
 ·have hm1':decide ((1:Int)≤most)=false:=by simpa using hm1
  clear hm
  go_enter Tryz.func119,Tryz.ntmps119
  go_wp2_with fail
  refine (HT.out _).mono ?_
  rintro e w1 ⟨rfl,hk1⟩
  have HK1:=Lib.hid hk1
  clear hk1
  go_wp2_with fail
  go_loopw [12,40] (fun v i wr=>∃ (k:Nat),k≤m∧i=.int .i64 k∧wr.ownsRow w1.heap.size 9 1 v ((xs.take k).map (nameOf full)).length (strCells ((xs.take k).map (nameOf full)))∧Kept w1 wr) (fun _ i _=>m - (intOf i).toNat)
  case atStart=>exact ⟨0,Nat.zero_le _,rfl,World.ownsRow_nil _ _ _ _,Kept.refl _⟩
  case round =>
   obtain ⟨k,hkl,rfl,hown,hkr⟩:=hrel
   by_cases hlt:k<m
   ·obtain ⟨q,hx⟩:∃ x,xs[k]? = some x:=⟨_,List.getElem?_eq_getElem (by rw [HLEN.out]; exact hlt)⟩
    obtain ⟨a',c',hv',hc',h3⟩:=(HX.out.kept HK1.out).kept hkr
    obtain ⟨rfl,hdead,rfl⟩:=Value.slice.inj hv'
    clear hdead
    obtain ⟨g,o,rfl,hg,hcc⟩:=h3 (by rw [HLEN.out]; omega)
    obtain ⟨c0,c1,c2,c3⟩:=hcc k q hx
    have hqs:=HXQ.out q (List.mem_of_getElem? hx)
    have HF:=Lib.hid (map_take (nameOf full) xs k q hx)
    have hfl:((xs.take k).map (nameOf full)).length≤k:=by simp; omega
    generalize (xs.take k).map (nameOf full)=ws at *
    have hsz:w1.heap.size≤wr.heap.size:=hkr.size
    have HR:=Lib.hid hkr
    have HW:=Lib.hid hown
    have HNF:=Lib.hid (fun w=>name_full w q hqs)
    have HNS:=Lib.hid (fun w=>name_short w q hqs)
    clear hkr hx hown hcc h3 hv' hc'
    obtain ⟨qf,qg,qp,qs⟩:=q
    simp only at c0 c1 c2 c3
    cases full
    ·have HNAME:=HNS
     clear HNF HNS
     go_wp2_with fail
     refine (HNAME.out _).mono ?_
     rintro e w2 ⟨rfl,hk2⟩
     generalize nameOf false (qf,qg,qp,qs)=nm at *
     have hown:=own_kept (HW.out.alloc (.cells #[.string (bs qf),.string (bs qg),.string (bs qp),.string (bs qs)] 77)) hk2
     have HR2:=Lib.hid ((HR.out.trans (kept_alloc wr _)).trans hk2)
     have hsz2:w1.heap.size≤w2.heap.size:=HR2.out.size
     clear hk2
     go_wp2_with (at_builtin; refine wpList_append_own _ rfl _ _ 29 rfl w1.heap.size 9 i0 (.string ⟨#[]⟩) 1 16 Tryz.underlying29 hi hz0 hz1 hz2 rfl (by decide) _ _ _ rfl (hown.alloc _) ⟨w2.heap.size,0,none⟩ 1 1 [.string (bs nm)] rfl rfl ?_ ?_ ?_ ?_ ?_ ?_)
     ·exact new_cells _ #[.string (bs nm)] _ _ (by simp)
     ·intro u hu; simp at hu; subst hu; rfl
     ·unfold maxLen; omega
     ·omega
     ·simp; omega
     intro v' w3 hown2 hgrow _
     have HB2:=Lib.hid ((HR2.out.trans (kept_alloc w2 _)).trans' (grown_below (hown.alloc _) hgrow (by simp; omega)))
     rw [← strCells_snoc] at hown2
     have HO:=Lib.hid hown2
     clear hown2 hgrow hown
     go_wp2_with fail
     go_roundw
     case rel=>exact ⟨k+1,by omega,by go_num,by rw [HF.out]; simpa using HO.out,HB2.out⟩
     case measure=>simp [intOf]; omega
    ·have HNAME:=HNF
     clear HNF HNS
     go_wp2_with fail
     refine (HNAME.out _).mono ?_
     rintro e w2 ⟨rfl,hk2⟩
     generalize nameOf true (qf,qg,qp,qs)=nm at *
     have hown:=own_kept (HW.out.alloc (.cells #[.string (bs qf),.string (bs qg),.string (bs qp),.string (bs qs)] 77)) hk2
     have HR2:=Lib.hid ((HR.out.trans (kept_alloc wr _)).trans hk2)
     have hsz2:w1.heap.size≤w2.heap.size:=HR2.out.size
     clear hk2
     go_wp2_with (at_builtin; refine wpList_append_own _ rfl _ _ 29 rfl w1.heap.size 9 i0 (.string ⟨#[]⟩) 1 16 Tryz.underlying29 hi hz0 hz1 hz2 rfl (by decide) _ _ _ rfl (hown.alloc _) ⟨w2.heap.size,0,none⟩ 1 1 [.string (bs nm)] rfl rfl ?_ ?_ ?_ ?_ ?_ ?_)
     ·exact new_cells _ #[.string (bs nm)] _ _ (by simp)
     ·intro u hu; simp at hu; subst hu; rfl
     ·unfold maxLen; omega
     ·omega
     ·simp; omega
     intro v' w3 hown2 hgrow _
     have HB2:=Lib.hid ((HR2.out.trans (kept_alloc w2 _)).trans' (grown_below (hown.alloc _) hgrow (by simp; omega)))
     rw [← strCells_snoc] at hown2
     have HO:=Lib.hid hown2
     clear hown2 hgrow hown
     go_wp2_with fail
     go_roundw
     case rel=>exact ⟨k+1,by omega,by go_num,by rw [HF.out]; simpa using HO.out,HB2.out⟩
     case measure=>simp [intOf]; omega
   ·have HW:=Lib.hid (Strs.own hown)
    have HR:=Lib.hid (HK1.out.trans hkr)
    rw [List.take_of_length_le (by rw [HLEN.out]; omega)] at HW
    have hnl:(xs.map (nameOf full)).length≤900:=by rw [List.length_map,HLEN.out]; exact hml
    have hjl:=join_sep_le 10004 _ (names_le full xs HXQ.out)
    have hjd:=join_sep_le 10004 (xs.map (nameOf full)).dropLast (fun x hx=>names_le full xs HXQ.out x ((List.dropLast_sublist _).subset hx))
    have hll:((xs.map (nameOf full)).getLastD []).length≤10004:=by
     cases hq:(xs.map (nameOf full)).getLast? with
     | none=>rw [List.getLastD_eq_getLast?,hq]; simp
     | some y=>rw [List.getLastD_eq_getLast?,hq]; exact names_le full xs HXQ.out y (List.mem_of_getLast? hq)
    have hdl:(xs.map (nameOf full)).dropLast.length≤900:=by simp at hnl ⊢; omega
    clear hown hkr
    have hj1:(Lib.join (xs.map (nameOf full)) sepL).length≤10000000:=by
     have:=Nat.mul_le_mul_right 10006 hnl; omega
    have hj2:(Lib.join (xs.map (nameOf full)).dropLast sepL).length≤10000000:=by
     have:=Nat.mul_le_mul_right 10006 hdl; omega
    clear hjl hjd hdl
    go_wp2_with fail
    refine (llist_any l _ _ _ HW.out (by omega) hj1 hj2 (by omega)).mono ?_
    rintro e w2 ⟨rfl,hk2⟩
    have HR2:=Lib.hid (HR.out.trans hk2)
    clear hk2
    go_wp2_with fail
    go_ret
    exact ⟨ret_bs (by rw [HE.out]),HR2.out⟩

set_option maxRecDepth 100000 in
set_option maxHeartbeats 3200000 in
theorem plist_us (v:Value) (ps:List P4) (l:Bs) (most:Int) (full:Bool) (w:World) (hv:Perss w v ps) (hN:ps.length≤900) (hq:∀ q∈ps,size4 q≤10000) (hk:(andOf l).isSome=false) (hm1:1≤most) (hm2:most<ps.length) (hmr : -9223372036854775808≤most∧most≤9223372036854775807) :
  Calls Tryz.prog 119 #[v,.string (bs l),.int .i64 most,.bool full] w fun e w'=>e=.returned (.string (bs (Lib.join ((ps.take most.toNat).map (nameOf full)) sepL ++ [32] ++ (andOf lEn).getD [] ++ [32] ++ (othersOf lEn).getD [])))∧Kept w w':=by
 obtain ⟨i0,hi,hz0,hz1,hz2⟩:=info_parts Tryz.infoStr
 have HV:=Lib.hid hv
 have HQ:=Lib.hid hq
 clear hq
 obtain ⟨a,c,rfl,hc,h3⟩:=hv
 clear h3
 obtain ⟨an0,HT⟩:∃ an0,Hid (∀ w,Calls Tryz.prog 162 #[.string (bs l),.string (bs [97,110,100]),.int .i64 1] w fun e w'=>e=.returned (.tuple #[.string (bs an0),.bool false])∧Kept w w') :=
  ⟨_,fun w=>by have:=term_and l 1 w; rw [hk] at this; exact this⟩
 clear hk
 obtain ⟨m,rfl⟩:∃ m:Nat,most=m:=⟨most.toNat,by omega⟩
 obtain ⟨xs,hxs⟩:∃ xs,xs=ps.take m:=⟨_,rfl⟩
 have hxl:xs.length=m:=by rw [hxs]; simp; omega
 have HX:Hid (Perss w (.slice a m c) xs):=by show Perss _ _ _; rw [hxs]; exact HV.out.cut m (by omega)
 have HXQ:Hid (∀ q∈xs,size4 q≤10000):=by intro q h; rw [hxs] at h; exact HQ.out q (List.mem_of_mem_take h)
 have HE:Hid (Lib.join ((ps.take ((m:Int)).toNat).map (nameOf full)) sepL=Lib.join (xs.map (nameOf full)) sepL):=by show _=_; rw [hxs]; simp
 have HLEN:=Lib.hid hxl
 have hml:m≤900:=by omega
 clear hxs hxl hc
 have hc:m≤c:=by obtain ⟨a',c',hv,hc,h3⟩:=HX.out; obtain ⟨_,h1,h2⟩:=Value.slice.inj hv; omega
 have HA:=Lib.hid (fun w=>term_and lEn 1 w)
 have HO:=Lib.hid (fun w=>term_others lEn 2 w)
 have hal:=andOf_len lEn
 have hol:=othersOf_len lEn
 have HSP:Hid (sepL=[44,32]):=rfl
 generalize (andOf lEn).getD []=an at *
 generalize (andOf lEn).isSome=an1 at *
 generalize (othersOf lEn).getD []=ot at *
 generalize (othersOf lEn).isSome=ot1 at *
 have hm1':decide ((1:Int)≤(m:Int))=true:=by simpa using hm1
 have hm2':decide (m<ps.length)=true:=by simp; omega
 have hm3:1≤m:=by omega
 have hm4:m<ps.length:=by omega
 clear hm1 hm2 hmr
 go_enter Tryz.func119,Tryz.ntmps119
 go_wp2_with fail
 refine (HT.out _).mono ?_
 rintro e w1 ⟨rfl,hk1⟩
 have HK1:=Lib.hid hk1
 clear hk1
 go_wp2_with fail
 simp only [mk_bs]
 go_loopw [12,40] (fun v i wr=>∃ (k:Nat),k≤m∧i=.int .i64 k∧wr.ownsRow w1.heap.size 9 1 v ((xs.take k).map (nameOf full)).length (strCells ((xs.take k).map (nameOf full)))∧Kept w1 wr) (fun _ i _=>m - (intOf i).toNat)
 case atStart=>exact ⟨0,Nat.zero_le _,rfl,World.ownsRow_nil _ _ _ _,Kept.refl _⟩
 case round =>
  obtain ⟨k,hkl,rfl,hown,hkr⟩:=hrel
  by_cases hlt:k<m
  ·obtain ⟨q,hx⟩:∃ x,xs[k]? = some x:=⟨_,List.getElem?_eq_getElem (by rw [HLEN.out]; exact hlt)⟩
   obtain ⟨a',c',hv',hc',h3⟩:=(HX.out.kept HK1.out).kept hkr
   obtain ⟨rfl,hdead,rfl⟩:=Value.slice.inj hv'
   clear hdead
   obtain ⟨g,o,rfl,hg,hcc⟩:=h3 (by rw [HLEN.out]; omega)
   obtain ⟨c0,c1,c2,c3⟩:=hcc k q hx
   have hqs:=HXQ.out q (List.mem_of_getElem? hx)
   have HF:=Lib.hid (map_take (nameOf full) xs k q hx)
   have hfl:((xs.take k).map (nameOf full)).length≤k:=by simp; omega
   generalize (xs.take k).map (nameOf full)=ws at *
   have hsz:w1.heap.size≤wr.heap.size:=hkr.size
   have HR:=Lib.hid hkr
   have HW:=Lib.hid hown
   have HNF:=Lib.hid (fun w=>name_full w q hqs)
   have HNS:=Lib.hid (fun w=>name_short w q hqs)
   clear hkr hx hown hcc h3 hv' hc'
   obtain ⟨qf,qg,qp,qs⟩:=q
   simp only at c0 c1 c2 c3
   cases full
   ·have HNAME:=HNS
    clear HNF HNS
    go_wp2_with fail
    refine (HNAME.out _).mono ?_
    rintro e w2 ⟨rfl,hk2⟩
    generalize nameOf false (qf,qg,qp,qs)=nm at *
    have hown:=own_kept (HW.out.alloc (.cells #[.string (bs qf),.string (bs qg),.string (bs qp),.string (bs qs)] 77)) hk2
    have HR2:=Lib.hid ((HR.out.trans (kept_alloc wr _)).trans hk2)
    have hsz2:w1.heap.size≤w2.heap.size:=HR2.out.size
    clear hk2
    go_wp2_with (at_builtin; refine wpList_append_own _ rfl _ _ 29 rfl w1.heap.size 9 i0 (.string ⟨#[]⟩) 1 16 Tryz.underlying29 hi hz0 hz1 hz2 rfl (by decide) _ _ _ rfl (hown.alloc _) ⟨w2.heap.size,0,none⟩ 1 1 [.string (bs nm)] rfl rfl ?_ ?_ ?_ ?_ ?_ ?_)
    ·exact new_cells _ #[.string (bs nm)] _ _ (by simp)
    ·intro u hu; simp at hu; subst hu; rfl
    ·unfold maxLen; omega
    ·omega
    ·simp; omega
    intro v' w3 hown2 hgrow _
    have HB2:=Lib.hid ((HR2.out.trans (kept_alloc w2 _)).trans' (grown_below (hown.alloc _) hgrow (by simp; omega)))
    rw [← strCells_snoc] at hown2
    have HO:=Lib.hid hown2
    clear hown2 hgrow hown
    go_wp2_with fail
    go_roundw
    case rel=>exact ⟨k+1,by omega,by go_num,by rw [HF.out]; simpa using HO.out,HB2.out⟩
    case measure=>simp [intOf]; omega
   ·have HNAME:=HNF
    clear HNF HNS
    go_wp2_with fail
    refine (HNAME.out _).mono ?_
    rintro e w2 ⟨rfl,hk2⟩
    generalize nameOf true (qf,qg,qp,qs)=nm at *
    have hown:=own_kept (HW.out.alloc (.cells #[.string (bs qf),.string (bs qg),.string (bs qp),.string (bs qs)] 77)) hk2
    have HR2:=Lib.hid ((HR.out.trans (kept_alloc wr _)).trans hk2)
    have hsz2:w1.heap.size≤w2.heap.size:=HR2.out.size
    clear hk2
    go_wp2_with (at_builtin; refine wpList_append_own _ rfl _ _ 29 rfl w1.heap.size 9 i0 (.string ⟨#[]⟩) 1 16 Tryz.underlying29 hi hz0 hz1 hz2 rfl (by decide) _ _ _ rfl (hown.alloc _) ⟨w2.heap.size,0,none⟩ 1 1 [.string (bs nm)] rfl rfl ?_ ?_ ?_ ?_ ?_ ?_)
    ·exact new_cells _ #[.string (bs nm)] _ _ (by simp)
    ·intro u hu; simp at hu; subst hu; rfl
    ·unfold maxLen; omega
    ·omega
    ·simp; omega
    intro v' w3 hown2 hgrow _
    have HB2:=Lib.hid ((HR2.out.trans (kept_alloc w2 _)).trans' (grown_below (hown.alloc _) hgrow (by simp; omega)))
    rw [← strCells_snoc] at hown2
    have HO:=Lib.hid hown2
    clear hown2 hgrow hown
    go_wp2_with fail
    go_roundw
    case rel=>exact ⟨k+1,by omega,by go_num,by rw [HF.out]; simpa using HO.out,HB2.out⟩
    case measure=>simp [intOf]; omega
  ·have HW:=Lib.hid (Strs.own hown)
   have HR:=Lib.hid (HK1.out.trans hkr)
   rw [List.take_of_length_le (by rw [HLEN.out]; omega)] at HW
   have hnl:(xs.map (nameOf full)).length≤900:=by rw [List.length_map,HLEN.out]; exact hml
   have hjl:=join_sep_le 10004 _ (names_le full xs HXQ.out)
   have hjd:=join_sep_le 10004 (xs.map (nameOf full)).dropLast (fun x hx=>names_le full xs HXQ.out x ((List.dropLast_sublist _).subset hx))
   have hll:((xs.map (nameOf full)).getLastD []).length≤10004:=by
    cases hq:(xs.map (nameOf full)).getLast? with
    | none=>rw [List.getLastD_eq_getLast?,hq]; simp
    | some y=>rw [List.getLastD_eq_getLast?,hq]; exact names_le full xs HXQ.out y (List.mem_of_getLast? hq)
   have hdl:(xs.map (nameOf full)).dropLast.length≤900:=by simp at hnl ⊢; omega
   clear hown hkr
   have hj1:(Lib.join (xs.map (nameOf full)) sepL).length≤10000000:=by
    have:=Nat.mul_le_mul_right 10006 hnl; omega
   have hj2:(Lib.join (xs.map (nameOf full)).dropLast sepL).length≤10000000:=by
    have:=Nat.mul_le_mul_right 10006 hdl; omega
   clear hjl hjd hdl
   go_wp2_with fail
   refine (HA.out _).mono ?_
   rintro e w2 ⟨rfl,hk2⟩
   have HR2:=Lib.hid (HR.out.trans hk2)
   have HW2:=Lib.hid (HW.out.kept hk2)
   clear hk2
   go_wp2_with fail
   refine (HO.out _).mono ?_
   rintro e w3 ⟨rfl,hk3⟩
   have HR3:=Lib.hid (HR2.out.trans hk3)
   have HW3:=Lib.hid (HW2.out.kept hk3)
   clear hk3
   go_wp2_with fail
   rw [← HSP.out]
   refine (join_any _ _ _ _ HW3.out (by omega) (by omega)).mono ?_
   rintro e w4 ⟨rfl,hk4⟩
   have HR4:=Lib.hid (HR3.out.trans hk4)
   clear hk4
   generalize Lib.join (xs.map (nameOf full)) sepL=jj at *
   go_wp2_with fail
   go_ret
   exact ⟨ret_bs (by rw [HE.out]; simp),HR4.out⟩

set_option maxRecDepth 100000 in
set_option maxHeartbeats 3200000 in
theorem plist_un (v:Value) (ps:List P4) (l:Bs) (most:Int) (full:Bool) (w:World) (hv:Perss w v ps) (hN:ps.length≤900) (hq:∀ q∈ps,size4 q≤10000) (hk:(andOf l).isSome=false) (hm:¬ (1≤most∧most<ps.length)) (hmr : -9223372036854775808≤most∧most≤9223372036854775807) :
  Calls Tryz.prog 119 #[v,.string (bs l),.int .i64 most,.bool full] w fun e w'=>e=.returned (.string (bs (llistL lEn (ps.map (nameOf full)))))∧Kept w w':=by
 obtain ⟨i0,hi,hz0,hz1,hz2⟩:=info_parts Tryz.infoStr
 have HV:=Lib.hid hv
 have HQ:=Lib.hid hq
 clear hq
 obtain ⟨a,c,rfl,hc,h3⟩:=hv
 clear h3
 obtain ⟨an0,HT⟩:∃ an0,Hid (∀ w,Calls Tryz.prog 162 #[.string (bs l),.string (bs [97,110,100]),.int .i64 1] w fun e w'=>e=.returned (.tuple #[.string (bs an0),.bool false])∧Kept w w') :=
  ⟨_,fun w=>by have:=term_and l 1 w; rw [hk] at this; exact this⟩
 clear hk
 obtain ⟨m,hm0⟩:∃ m:Nat,m=ps.length:=⟨_,rfl⟩
 obtain ⟨xs,hxs⟩:∃ xs,xs=ps:=⟨_,rfl⟩
 have HX:Hid (Perss w (.slice a m c) xs):=by show Perss _ _ _; rw [hxs,hm0]; exact HV.out
 have HXQ:Hid (∀ q∈xs,size4 q≤10000):=by intro q h; rw [hxs] at h; exact HQ.out q h
 have HE:Hid (ps=xs):=hxs.symm
 have HLEN:Hid (xs.length=m):=by show _=_; rw [hxs,hm0]
 have hml:m≤900:=by omega
 rw [← hm0] at hm hc
 rw [← hm0]
 clear hxs
 have HM0:=Lib.hid hm0
 clear hm0 hN
 by_cases hm1:1≤most
 ·have hm1':decide ((1:Int)≤most)=true:=by simpa using hm1
  have hm2':decide (most<(m:Int))=false:=by simp; omega
  have hm3:¬ most<(m:Int):=by omega
  clear hm
  go_enter Tryz.func119,Tryz.ntmps119
  go_wp2_with fail
  refine (HT.out _).mono ?_
  rintro e w1 ⟨rfl,hk1⟩
  have HK1:=Lib.hid hk1
  clear hk1
  go_wp2_with fail
  simp only [mk_bs]
  go_loopw [12,40] (fun v i wr=>∃ (k:Nat),k≤m∧i=.int .i64 k∧wr.ownsRow w1.heap.size 9 1 v ((xs.take k).map (nameOf full)).length (strCells ((xs.take k).map (nameOf full)))∧Kept w1 wr) (fun _ i _=>m - (intOf i).toNat)
  case atStart=>exact ⟨0,Nat.zero_le _,rfl,World.ownsRow_nil _ _ _ _,Kept.refl _⟩
  case round =>
   obtain ⟨k,hkl,rfl,hown,hkr⟩:=hrel
   by_cases hlt:k<m
   ·obtain ⟨q,hx⟩:∃ x,xs[k]? = some x:=⟨_,List.getElem?_eq_getElem (by rw [HLEN.out]; exact hlt)⟩
    obtain ⟨a',c',hv',hc',h3⟩:=(HX.out.kept HK1.out).kept hkr
    obtain ⟨rfl,hdead,rfl⟩:=Value.slice.inj hv'
    clear hdead
    obtain ⟨g,o,rfl,hg,hcc⟩:=h3 (by rw [HLEN.out]; omega)
    obtain ⟨c0,c1,c2,c3⟩:=hcc k q hx
    have hqs:=HXQ.out q (List.mem_of_getElem? hx)
    have HF:=Lib.hid (map_take (nameOf full) xs k q hx)
    have hfl:((xs.take k).map (nameOf full)).length≤k:=by simp; omega
    generalize (xs.take k).map (nameOf full)=ws at *
    have hsz:w1.heap.size≤wr.heap.size:=hkr.size
    have HR:=Lib.hid hkr
    have HW:=Lib.hid hown
    have HNF:=Lib.hid (fun w=>name_full w q hqs)
    have HNS:=Lib.hid (fun w=>name_short w q hqs)
    clear hkr hx hown hcc h3 hv' hc'
    obtain ⟨qf,qg,qp,qs⟩:=q
    simp only at c0 c1 c2 c3
    cases full
    ·have HNAME:=HNS
     clear HNF HNS
     go_wp2_with fail
     refine (HNAME.out _).mono ?_
     rintro e w2 ⟨rfl,hk2⟩
     generalize nameOf false (qf,qg,qp,qs)=nm at *
     have hown:=own_kept (HW.out.alloc (.cells #[.string (bs qf),.string (bs qg),.string (bs qp),.string (bs qs)] 77)) hk2
     have HR2:=Lib.hid ((HR.out.trans (kept_alloc wr _)).trans hk2)
     have hsz2:w1.heap.size≤w2.heap.size:=HR2.out.size
     clear hk2
     go_wp2_with (at_builtin; refine wpList_append_own _ rfl _ _ 29 rfl w1.heap.size 9 i0 (.string ⟨#[]⟩) 1 16 Tryz.underlying29 hi hz0 hz1 hz2 rfl (by decide) _ _ _ rfl (hown.alloc _) ⟨w2.heap.size,0,none⟩ 1 1 [.string (bs nm)] rfl rfl ?_ ?_ ?_ ?_ ?_ ?_)
     ·exact new_cells _ #[.string (bs nm)] _ _ (by simp)
     ·intro u hu; simp at hu; subst hu; rfl
     ·unfold maxLen; omega
     ·omega
     ·simp; omega
     intro v' w3 hown2 hgrow _
     have HB2:=Lib.hid ((HR2.out.trans (kept_alloc w2 _)).trans' (grown_below (hown.alloc _) hgrow (by simp; omega)))
     rw [← strCells_snoc] at hown2
     have HO:=Lib.hid hown2
     clear hown2 hgrow hown
     go_wp2_with fail
     go_roundw
     case rel=>exact ⟨k+1,by omega,by go_num,by rw [HF.out]; simpa using HO.out,HB2.out⟩
     case measure=>simp [intOf]; omega
    ·have HNAME:=HNF
     clear HNF HNS
     go_wp2_with fail
     refine (HNAME.out _).mono ?_
     rintro e w2 ⟨rfl,hk2⟩
     generalize nameOf true (qf,qg,qp,qs)=nm at *
     have hown:=own_kept (HW.out.alloc (.cells #[.string (bs qf),.string (bs qg),.string (bs qp),.string (bs qs)] 77)) hk2
     have HR2:=Lib.hid ((HR.out.trans (kept_alloc wr _)).trans hk2)
     have hsz2:w1.heap.size≤w2.heap.size:=HR2.out.size
     clear hk2
     go_wp2_with (at_builtin; refine wpList_append_own _ rfl _ _ 29 rfl w1.heap.size 9 i0 (.string ⟨#[]⟩) 1 16 Tryz.underlying29 hi hz0 hz1 hz2 rfl (by decide) _ _ _ rfl (hown.alloc _) ⟨w2.heap.size,0,none⟩ 1 1 [.string (bs nm)] rfl rfl ?_ ?_ ?_ ?_ ?_ ?_)
     ·exact new_cells _ #[.string (bs nm)] _ _ (by simp)
     ·intro u hu; simp at hu; subst hu; rfl
     ·unfold maxLen; omega
     ·omega
     ·simp; omega
     intro v' w3 hown2 hgrow _
     have HB2:=Lib.hid ((HR2.out.trans (kept_alloc w2 _)).trans' (grown_below (hown.alloc _) hgrow (by simp; omega)))
     rw [← strCells_snoc] at hown2
     have HO:=Lib.hid hown2
     clear hown2 hgrow hown
     go_wp2_with fail
     go_roundw
     case rel=>exact ⟨k+1,by omega,by go_num,by rw [HF.out]; simpa using HO.out,HB2.out⟩
     case measure=>simp [intOf]; omega
   ·have HW:=Lib.hid (Strs.own hown)
    have HR:=Lib.hid (HK1.out.trans hkr)
    rw [List.take_of_length_le (by rw [HLEN.out]; omega)] at HW
    have hnl:(xs.map (nameOf full)).length≤900:=by rw [List.length_map,HLEN.out]; exact hml
    have hjl:=join_sep_le 10004 _ (names_le full xs HXQ.out)
    have hjd:=join_sep_le 10004 (xs.map (nameOf full)).dropLast (fun x hx=>names_le full xs HXQ.out x ((List.dropLast_sublist _).subset hx))
    have hll:((xs.map (nameOf full)).getLastD []).length≤10004:=by
     cases hq:(xs.map (nameOf full)).getLast? with
     | none=>rw [List.getLastD_eq_getLast?,hq]; simp
     | some y=>rw [List.getLastD_eq_getLast?,hq]; exact names_le full xs HXQ.out y (List.mem_of_getLast? hq)
    have hdl:(xs.map (nameOf full)).dropLast.length≤900:=by simp at hnl ⊢; omega
    clear hown hkr
    have hj1:(Lib.join (xs.map (nameOf full)) sepL).length≤10000000:=by
     have:=Nat.mul_le_mul_right 10006 hnl; omega
    have hj2:(Lib.join (xs.map (nameOf full)).dropLast sepL).length≤10000000:=by
     have:=Nat.mul_le_mul_right 10006 hdl; omega
    clear hjl hjd hdl
    go_wp2_with fail
    refine (llist_any lEn _ _ _ HW.out (by omega) hj1 hj2 (by omega)).mono ?_
    rintro e w2 ⟨rfl,hk2⟩
    have HR2:=Lib.hid (HR.out.trans hk2)
    clear hk2
    go_wp2_with fail
    go_ret
    exact ⟨ret_bs (by rw [HE.out]),HR2.out⟩
 ·have hm1':decide ((1:Int)≤most)=false:=by simpa using hm1
  clear hm
  go_enter Tryz.func119,Tryz.ntmps119
  go_wp2_with fail
  refine (HT.out _).mono ?_
  rintro e w1 ⟨rfl,hk1⟩
  have HK1:=Lib.hid hk1
  clear hk1
  go_wp2_with fail
  simp only [mk_bs]
  go_loopw [12,40] (fun v i wr=>∃ (k:Nat),k≤m∧i=.int .i64 k∧wr.ownsRow w1.heap.size 9 1 v ((xs.take k).map (nameOf full)).length (strCells ((xs.take k).map (nameOf full)))∧Kept w1 wr) (fun _ i _=>m - (intOf i).toNat)
  case atStart=>exact ⟨0,Nat.zero_le _,rfl,World.ownsRow_nil _ _ _ _,Kept.refl _⟩
  case round =>
   obtain ⟨k,hkl,rfl,hown,hkr⟩:=hrel
   by_cases hlt:k<m
   ·obtain ⟨q,hx⟩:∃ x,xs[k]? = some x:=⟨_,List.getElem?_eq_getElem (by rw [HLEN.out]; exact hlt)⟩
    obtain ⟨a',c',hv',hc',h3⟩:=(HX.out.kept HK1.out).kept hkr
    obtain ⟨rfl,hdead,rfl⟩:=Value.slice.inj hv'
    clear hdead
    obtain ⟨g,o,rfl,hg,hcc⟩:=h3 (by rw [HLEN.out]; omega)
    obtain ⟨c0,c1,c2,c3⟩:=hcc k q hx
    have hqs:=HXQ.out q (List.mem_of_getElem? hx)
    have HF:=Lib.hid (map_take (nameOf full) xs k q hx)
    have hfl:((xs.take k).map (nameOf full)).length≤k:=by simp; omega
    generalize (xs.take k).map (nameOf full)=ws at *
    have hsz:w1.heap.size≤wr.heap.size:=hkr.size
    have HR:=Lib.hid hkr
    have HW:=Lib.hid hown
    have HNF:=Lib.hid (fun w=>name_full w q hqs)
    have HNS:=Lib.hid (fun w=>name_short w q hqs)
    clear hkr hx hown hcc h3 hv' hc'
    obtain ⟨qf,qg,qp,qs⟩:=q
    simp only at c0 c1 c2 c3
    cases full
    ·have HNAME:=HNS
     clear HNF HNS
     go_wp2_with fail
     refine (HNAME.out _).mono ?_
     rintro e w2 ⟨rfl,hk2⟩
     generalize nameOf false (qf,qg,qp,qs)=nm at *
     have hown:=own_kept (HW.out.alloc (.cells #[.string (bs qf),.string (bs qg),.string (bs qp),.string (bs qs)] 77)) hk2
     have HR2:=Lib.hid ((HR.out.trans (kept_alloc wr _)).trans hk2)
     have hsz2:w1.heap.size≤w2.heap.size:=HR2.out.size
     clear hk2
     go_wp2_with (at_builtin; refine wpList_append_own _ rfl _ _ 29 rfl w1.heap.size 9 i0 (.string ⟨#[]⟩) 1 16 Tryz.underlying29 hi hz0 hz1 hz2 rfl (by decide) _ _ _ rfl (hown.alloc _) ⟨w2.heap.size,0,none⟩ 1 1 [.string (bs nm)] rfl rfl ?_ ?_ ?_ ?_ ?_ ?_)
     ·exact new_cells _ #[.string (bs nm)] _ _ (by simp)
     ·intro u hu; simp at hu; subst hu; rfl
     ·unfold maxLen; omega
     ·omega
     ·simp; omega
     intro v' w3 hown2 hgrow _
     have HB2:=Lib.hid ((HR2.out.trans (kept_alloc w2 _)).trans' (grown_below (hown.alloc _) hgrow (by simp; omega)))
     rw [← strCells_snoc] at hown2
     have HO:=Lib.hid hown2
     clear hown2 hgrow hown
     go_wp2_with fail
     go_roundw
     case rel=>exact ⟨k+1,by omega,by go_num,by rw [HF.out]; simpa using HO.out,HB2.out⟩
     case measure=>simp [intOf]; omega
    ·have HNAME:=HNF
     clear HNF HNS
     go_wp2_with fail
     refine (HNAME.out _).mono ?_
     rintro e w2 ⟨rfl,hk2⟩
     generalize nameOf true (qf,qg,qp,qs)=nm at *
     have hown:=own_kept (HW.out.alloc (.cells #[.string (bs qf),.string (bs qg),.string (bs qp),.string (bs qs)] 77)) hk2
     have HR2:=Lib.hid ((HR.out.trans (kept_alloc wr _)).trans hk2)
     have hsz2:w1.heap.size≤w2.heap.size:=HR2.out.size
     clear hk2
     go_wp2_with (at_builtin; refine wpList_append_own _ rfl _ _ 29 rfl w1.heap.size 9 i0 (.string ⟨#[]⟩) 1 16 Tryz.underlying29 hi hz0 hz1 hz2 rfl (by decide) _ _ _ rfl (hown.alloc _) ⟨w2.heap.size,0,none⟩ 1 1 [.string (bs nm)] rfl rfl ?_ ?_ ?_ ?_ ?_ ?_)
     ·exact new_cells _ #[.string (bs nm)] _ _ (by simp)
     ·intro u hu; simp at hu; subst hu; rfl
     ·unfold maxLen; omega
     ·omega
     ·simp; omega
     intro v' w3 hown2 hgrow _
     have HB2:=Lib.hid ((HR2.out.trans (kept_alloc w2 _)).trans' (grown_below (hown.alloc _) hgrow (by simp; omega)))
     rw [← strCells_snoc] at hown2
     have HO:=Lib.hid hown2
     clear hown2 hgrow hown
     go_wp2_with fail
     go_roundw
     case rel=>exact ⟨k+1,by omega,by go_num,by rw [HF.out]; simpa using HO.out,HB2.out⟩
     case measure=>simp [intOf]; omega
   ·have HW:=Lib.hid (Strs.own hown)
    have HR:=Lib.hid (HK1.out.trans hkr)
    rw [List.take_of_length_le (by rw [HLEN.out]; omega)] at HW
    have hnl:(xs.map (nameOf full)).length≤900:=by rw [List.length_map,HLEN.out]; exact hml
    have hjl:=join_sep_le 10004 _ (names_le full xs HXQ.out)
    have hjd:=join_sep_le 10004 (xs.map (nameOf full)).dropLast (fun x hx=>names_le full xs HXQ.out x ((List.dropLast_sublist _).subset hx))
    have hll:((xs.map (nameOf full)).getLastD []).length≤10004:=by
     cases hq:(xs.map (nameOf full)).getLast? with
     | none=>rw [List.getLastD_eq_getLast?,hq]; simp
     | some y=>rw [List.getLastD_eq_getLast?,hq]; exact names_le full xs HXQ.out y (List.mem_of_getLast? hq)
    have hdl:(xs.map (nameOf full)).dropLast.length≤900:=by simp at hnl ⊢; omega
    clear hown hkr
    have hj1:(Lib.join (xs.map (nameOf full)) sepL).length≤10000000:=by
     have:=Nat.mul_le_mul_right 10006 hnl; omega
    have hj2:(Lib.join (xs.map (nameOf full)).dropLast sepL).length≤10000000:=by
     have:=Nat.mul_le_mul_right 10006 hdl; omega
    clear hjl hjd hdl
    go_wp2_with fail
    refine (llist_any lEn _ _ _ HW.out (by omega) hj1 hj2 (by omega)).mono ?_
    rintro e w2 ⟨rfl,hk2⟩
    have HR2:=Lib.hid (HR.out.trans hk2)
    clear hk2
    go_wp2_with fail
    go_ret
    exact ⟨ret_bs (by rw [HE.out]),HR2.out⟩

theorem plist_any (v:Value) (ps:List P4) (l:Bs) (most:Int) (full:Bool) (w:World) (hv:Perss w v ps) (hN:ps.length≤900) (hq:∀ q∈ps,size4 q≤10000) (hmr : -9223372036854775808≤most∧most≤9223372036854775807) :
  Calls Tryz.prog 119 #[v,.string (bs l),.int .i64 most,.bool full] w fun e w'=>e=.returned (.string (bs (plistL ps l most full)))∧Kept w w':=by
 unfold plistL langOf
 cases hk:(andOf l).isSome
 ·by_cases hm:1≤most∧most<ps.length
  ·rw [if_pos hm]; exact plist_us v ps l most full w hv hN hq hk hm.1 hm.2 hmr
  ·rw [if_neg hm]; exact plist_un v ps l most full w hv hN hq hk hm hmr
 ·by_cases hm:1≤most∧most<ps.length
  ·rw [if_pos hm]; exact plist_ks v ps l most full w hv hN hq hk hm.1 hm.2 hmr
  ·rw [if_neg hm]; exact plist_kn v ps l most full w hv hN hq hk hm hmr
end Go.Proofs.YtmcoomlkbgiboaaGreatDoor

/- Field and Year of package bib and of its reference. Conditions: lengths. -/
set_option linter.all false
namespace Go.Proofs.YtmcoomlkbgiboaaGreatDoor
open Go.RowKit

abbrev srcV (k t:Bs) (vA vE vF:Value):Value:=.agg #[.string (bs k),.string (bs t),vA,vE,vF]
theorem fieldL_none (ps:List Pr) (k:Bs) (h:∀ q∈ps,(q.1 == k)=false):fieldL ps k=none:=by
 unfold fieldL
 rw [List.find?_eq_none.2 (fun q hq=>by simp [h q hq])]; rfl
theorem fieldL_at (ps:List Pr) (k:Bs) (n:Nat) (q:Pr) (hq:ps[n]? = some q) (h:∀ x∈ps.take n,(x.1 == k)=false) (he:(q.1 == k)=true):fieldL ps k=some q.2:=by
 unfold fieldL
 obtain ⟨hn,rfl⟩:=List.getElem?_eq_some_iff.1 hq
 have e:ps=ps.take n ++ ps[n] :: ps.drop (n+1):=by
  rw [← List.drop_eq_getElem_cons hn,List.take_append_drop]
 conv=>lhs; rw [e]
 rw [List.find?_append,List.find?_eq_none.2 (fun q hq=>by simp [h q hq]),List.find?_cons_of_pos (by simpa using he)]
 rfl
def FieldPost (o:Option Bs) (w:World) (e:Ending) (w':World):Prop:=e=.returned (.tuple #[.string (bs (o.getD [])),.bool o.isSome])∧Kept w w'

set_option maxRecDepth 100000 in
set_option maxHeartbeats 1600000 in
theorem field_any (sk st:Bs) (vA vE vF:Value) (ps:List Pr) (k:Bs) (w:World) (hv:Prs w vF ps) (hN:ps.length≤1100000) :
  Calls Tryz.prog 35 #[srcV sk st vA vE vF,.string (bs k)] w (FieldPost (fieldL ps k) w):=by
 have HV:=Lib.hid hv
 have HA:=Lib.hid (fieldL_at ps k)
 have HNO:=Lib.hid (fieldL_none ps k)
 obtain ⟨o,HO⟩:∃ o,Hid (fieldL ps k=o):=⟨_,rfl⟩
 rw [HO.out] at HA HNO ⊢
 obtain ⟨a,c,rfl,hc,h3⟩:=hv
 clear h3
 unfold FieldPost
 go_enter Tryz.func35,Tryz.ntmps35
 go_wp2_with fail
 simp only [mk_bs]
 go_loopw [11] (fun i wr=>∃ n:Nat,n≤ps.length∧i=.int .i64 n∧Hid (∀ x∈ps.take n,(x.1 == k)=false)∧Kept w wr) (fun i _=>ps.length - (intOf i).toNat)
 case atStart=>exact ⟨0,Nat.zero_le _,rfl,fun x h=>by simp at h,kept_alloc _ _⟩
 case round =>
  obtain ⟨n,hn,rfl,HN,hkr⟩:=hrel
  by_cases hlt:n<ps.length
  ·obtain ⟨q,hx⟩:∃ x,ps[n]? = some x:=⟨_,List.getElem?_eq_getElem hlt⟩
   obtain ⟨a',c',hv',hc',h3⟩:=HV.out.kept hkr
   obtain ⟨rfl,hdead,rfl⟩:=Value.slice.inj hv'
   clear hdead
   obtain ⟨g,o2,rfl,hg,hcc⟩:=h3 (by omega)
   obtain ⟨c0,c1⟩:=hcc n q hx
   have HR:=Lib.hid hkr
   cases hxk:(q.1 == k)
   ·have HS:Hid (∀ x∈ps.take (n+1),(x.1 == k)=false):=by
     intro x hxm
     obtain ⟨hk',rfl⟩:=List.getElem?_eq_some_iff.1 hx
     rw [List.take_succ_eq_append_getElem hk'] at hxm
     rcases List.mem_append.1 hxm with h | h
     ·exact HN.out x h
     ·simp at h; subst h; exact hxk
    clear hkr hcc h3 hv' hc' hx HN
    obtain ⟨x,y⟩:=q
    simp only at c0 c1 hxk
    go_wp2_with fail
    go_roundw
    case rel=>exact ⟨n+1,by omega,by go_num,HS.out,HR.out.trans (kept_alloc _ _)⟩
    case measure=>simp [intOf]; omega
   ·have HF:=Lib.hid (HA.out n q hx HN.out hxk)
    clear hkr hcc h3 hv' hc' hx HN
    obtain ⟨x,y⟩:=q
    simp only at c0 c1 hxk HF
    go_wp2_with fail
    go_ret2
    exact ⟨by rw [HF.out]; rfl,HR.out.trans (kept_alloc _ _)⟩
  ·have HF:Hid (o=none):=HNO.out (fun q hq=>by
    have h:=HN.out
    rw [List.take_of_length_le (by omega)] at h
    exact h q hq)
   have HR:=Lib.hid hkr
   clear hkr HN
   go_wp2_with fail
   go_ret2
   exact ⟨by rw [HF.out]; rfl,HR.out⟩

end Go.Proofs.YtmcoomlkbgiboaaGreatDoor

/- Year and isName of package bib; the reference's Year. Conditions: lengths. -/
set_option linter.all false
namespace Go.Proofs.YtmcoomlkbgiboaaGreatDoor
open Go.RowKit

theorem dec_low (l:Bs) (i:Nat) (h:at8 l i<128):dec (bs l) i=(at8 l i,1):=by unfold dec; rw [byteAt_bs,if_pos h]
theorem dec_hi (l:Bs) (i:Nat) (h:128≤at8 l i):128≤(dec (bs l) i).1:=by
 have m0:∀ k a b,¬ moreOf (bs l) k a b<0→128≤a→a - 128≤moreOf (bs l) k a b∧moreOf (bs l) k a b≤b - 128:=by
  intro k a b q hl
  obtain ⟨_,h1,h2,h3⟩:=more_yes (s:=bs l) (i:=k) (l:=a) (h:=b) (by omega)
  omega
 have h:128≤byteAt (bs l) i:=h
 unfold dec
 rw [if_neg (by omega)]
 split
 ·split
  ·have:=m0 (i+1) 128 191 (by omega) (by omega)
   simp only; omega
  ·simp only; omega
 split
 ·unfold three
  split
  ·simp only; omega
  ·rename_i q
   simp only [not_or] at q
   have d:128≤low3 (byteAt (bs l) i)∧(byteAt (bs l) i=224→low3 (byteAt (bs l) i)=160):=by unfold low3; split <;> omega
   have a:=m0 (i+1) (low3 (byteAt (bs l) i)) (high3 (byteAt (bs l) i)) q.1 d.1
   have b:=m0 (i+2) 128 191 q.2 (by omega)
   simp only; omega
 split
 ·unfold four
  split
  ·simp only; omega
  ·rename_i q
   simp only [not_or] at q
   have d:128≤low4 (byteAt (bs l) i)∧(byteAt (bs l) i=240→low4 (byteAt (bs l) i)=144):=by unfold low4; split <;> omega
   have a:=m0 (i+1) (low4 (byteAt (bs l) i)) (high4 (byteAt (bs l) i)) q.1 d.1
   have b:=m0 (i+2) 128 191 q.2.1 (by omega)
   have b2:=m0 (i+3) 128 191 q.2.2 (by omega)
   simp only; omega
 ·simp only; omega

def digB (b:UInt8):Bool:=decide (48≤b.toNat) && decide (b.toNat≤57)
def numL (v:Bs):Nat:=v.foldl (fun n b=>10 * n+(b.toNat - 48)) 0
def yearL (v:Bs):Int:=if v.length≤4∧v.all digB=true then numL v else 0
theorem numL_snoc (v:Bs) (b:UInt8):numL (v ++ [b])=10 * numL v+(b.toNat - 48):=by simp [numL]
theorem numL_lt (v:Bs) (h:v.all digB=true):numL v<10 ^ v.length:=by
 refine snoc_ind (P:=fun v=>v.all digB=true→numL v<10 ^ v.length) ?_ ?_ v h
 ·intro _; simp [numL]
 ·intro l b ih h
  rw [List.all_append,Bool.and_eq_true] at h
  have h1:=ih h.1
  have h2:b.toNat≤57:=by have:=h.2; simp [digB] at this; omega
  rw [numL_snoc,List.length_append,List.length_cons,List.length_nil,Nat.pow_succ]
  omega
theorem dig_at (l:Bs) (i:Nat) (h:i<l.length):digB l[i]=true↔48≤at8 l i∧at8 l i≤57:=by
 rw [at8_get l i h]; simp [digB]; omega
theorem yearL_bad (v:Bs) (i:Nat) (h:i<v.length) (hb:¬ (48≤at8 v i∧at8 v i≤57)):yearL v=0:=by
 unfold yearL
 rw [if_neg]
 rintro ⟨_,q⟩
 rw [List.all_eq_true] at q
 exact hb ((dig_at v i h).1 (q _ (List.getElem_mem h)))
theorem yearL_good (v:Bs) (h4:v.length≤4) (h:v.all digB=true):yearL v=numL v:=by unfold yearL; rw [if_pos ⟨h4,h⟩]
theorem num_bound (v:Bs) (h4:v.length≤4) (h:v.all digB=true):numL v≤9999:=by
 have h1:=numL_lt v h
 have h2:10 ^ v.length≤10 ^ 4:=Nat.pow_le_pow_right (by omega) h4
 omega
theorem all_step (v:Bs) (k:Nat) (hk:k<v.length) (h:(v.take k).all digB=true) (hd:48≤at8 v k∧at8 v k≤57):(v.take (k+1)).all digB=true∧(numL (v.take (k+1)):Int)=10 * numL (v.take k)+(at8 v k - 48):=by
 rw [take_next v k hk,List.all_append,h]
 refine ⟨by simp [(dig_at v k hk).2 hd],?_⟩
 rw [numL_snoc,at8_get v k hk]
 have:48≤v[k].toNat:=by rw [at8_get v k hk] at hd; omega
 omega

/-- One step of a range over a text. -/
theorem iter_next (w wr:World) (g:Nat) (v:Bs) (pos n:Nat) (hit:wr.heap[g]? = some (.stringIter (bs v) pos)) (hk:Kept w wr) (hg:w.heap.size≤g) :
  (wr.iterAt g (bs v) (pos+n)).heap[g]? = some (.stringIter (bs v) (pos+n))∧Kept w (wr.iterAt g (bs v) (pos+n))∧(wr.iterAt g (bs v) (pos+n)).iterPos g=pos+n∧wr.iterPos g=pos:=by
 have h1:=Lib.iterAt_heap wr g (bs v) pos (pos+n) hit
 exact ⟨h1,Lib.below_iterAt hk hg (bs v) _,by simp [World.iterPos,h1],by simp [World.iterPos,hit]⟩
end Go.Proofs.YtmcoomlkbgiboaaGreatDoor
