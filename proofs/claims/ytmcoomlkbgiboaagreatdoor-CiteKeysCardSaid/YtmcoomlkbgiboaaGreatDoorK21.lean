/- Inverted of package person. Conditions: lengths. -/
import Derived.Test.YtmcoomlkbgiboaaGreatDoorK20
import Derived.Test.YtmcoomlkbgiboaaGreatDoorK19
import Derived.Test.YtmcoomlkbgiboaaGreatDoorK02
import Derived.Test.YtmcoomlkbgiboaaGreatDoorK17
import Derived.Test.YtmcoomlkbgiboaaGreatDoorK18
import Derived.Test.YtmcoomlkbgiboaaGreatDoorK13
import Derived.Test.YtmcoomlkbgiboaaGreatDoorK08
import Derived.Sort.WalkA
import Derived.BigQuiet
import Derived.Deep.RegionWith
import Derived.Deep.MidRow

set_option linter.all false
namespace Go.Proofs.YtmcoomlkbgiboaaGreatDoor
open Go.RowKit

theorem ini_len:∀ (l:Bs) (bg iw sm:Bool),(ini l bg iw sm).length≤6 * l.length
 | [],_,_,_=>by simp [ini]
 | b :: r,bg,iw,sm=>by
  rw [ini_cons]
  have h1:=ini_len r true false sm
  have h2:=ini_len r true iw sm
  have h3:=ini_len r false true true
  have h4:=ini_len r false iw sm
  have hp:(pieceI (b :: r)).length≤5:=by unfold pieceI; have:=encL_len (dec (bs (b :: r)) 0).1; simp; omega
  have hl:(if iw then [45] else if sm then [32] else ([]:Bs)).length≤1:=by cases iw <;> cases sm <;> simp
  simp only [List.length_cons]
  split
  ·omega
  split
  ·omega
  split
  ·simp only [List.length_append]; omega
  ·omega
theorem initialsL_len (g:Bs):(initialsL g).length≤6 * g.length:=by rw [initials_ini]; exact ini_len g _ _ _
def givenI (g:Bs) (i:Bool):Bs:=if i then initialsL g else g
def invL (f g p s:Bs) (i:Bool):Bs:=joinedL [p,f] ++ (if givenI g i=[] then [] else [44,32] ++ givenI g i) ++ (if s=[] then [] else [44,32] ++ s)

set_option maxRecDepth 100000 in
set_option maxHeartbeats 3200000 in
theorem inverted_any (f g p s:Bs) (i:Bool) (w:World) (hs:f.length+g.length+p.length+s.length≤1000000) :
  Calls Tryz.prog 87 #[persV f g p s,.bool i] w fun e w'=>e=.returned (.string (bs (invL f g p s i)))∧Kept w w':=by
 have hbu:bulk [p,f]≤1000002:=by simp [bulk]; omega
 have hsh:=joinedL_le [p,f]
 have hin:=initialsL_len g
 have HL:Hid (invL f g p s i=joinedL [p,f] ++ (if givenI g i=[] then [] else [44,32] ++ givenI g i) ++ (if s=[] then [] else [44,32] ++ s)):=rfl
 have hgl:(givenI g i).length≤6000000:=by unfold givenI; split <;> omega
 have HS:=Lib.hid (fun w=>short_any f g p s w (by omega))
 have HI:=Lib.hid (fun w=>initials_any f g p s w (by omega))
 have HGI:Hid (givenI g i=if i then initialsL g else g):=rfl
 generalize joinedL [p,f]=sh at *
 generalize initialsL g=il at *
 generalize givenI g i=gv at *
 cases i
 ·obtain rfl:gv=g:=HGI.out
  clear HGI
  by_cases hg:gv=[] <;> by_cases hs':s=[]
  all_goals
   first | subst hg | (have hge:gv.isEmpty=false:=by simpa using hg)
   first | subst hs' | (have hse:s.isEmpty=false:=by simpa using hs')
   try simp only [List.length_nil,Nat.add_zero,Nat.zero_add] at hs
   go_enter Tryz.func87,Tryz.ntmps87
   go_wp2_with fail
   refine (HS.out _).mono ?_
   rintro e w1 ⟨rfl,hk1⟩
   obtain ⟨kc,kf⟩:=keep_cell hk1
   have hz:w.heap.size<w1.heap.size:=by have:=hk1.size; simp at this; omega
   have HK:=Lib.hid ((kept_alloc w _).trans hk1)
   clear hk1
   go_wp2_with fail
   go_ret
   exact ⟨ret_bs (by rw [HL.out]; simp [*]),HK.out⟩
 ·obtain rfl:gv=il:=HGI.out
  clear HGI
  by_cases hg:gv=[] <;> by_cases hs':s=[]
  all_goals
   first | subst hg | (have hge:gv.isEmpty=false:=by simpa using hg)
   first | subst hs' | (have hse:s.isEmpty=false:=by simpa using hs')
   try simp only [List.length_nil,Nat.add_zero,Nat.zero_add] at hs
   go_enter Tryz.func87,Tryz.ntmps87
   go_wp2_with fail
   refine (HI.out _).mono ?_
   rintro e w1 ⟨rfl,hk1⟩
   obtain ⟨kc,kf⟩:=keep_cell hk1
   have hz:w.heap.size<w1.heap.size:=by have:=hk1.size; simp at this; omega
   have HK1:=Lib.hid hk1
   clear hk1
   go_wp2_with fail
   refine (HS.out _).mono ?_
   rintro e w2 ⟨rfl,hk2⟩
   have HK2:=Lib.hid (HK1.out.trans hk2)
   clear kc kf hk2 hz
   obtain ⟨kc,kf⟩:=keep_cell HK2.out
   have hz:w.heap.size<w2.heap.size:=by have:=HK2.out.size; simp at this; omega
   have HK:=Lib.hid ((kept_alloc w _).trans HK2.out)
   go_wp2_with fail
   go_ret
   exact ⟨ret_bs (by rw [HL.out]; simp [*]),HK.out⟩
end Go.Proofs.YtmcoomlkbgiboaaGreatDoor

/- cite.authorKey: what the authors of a source are sorted by. Conditions: lengths. -/
set_option linter.all false
namespace Go.Proofs.YtmcoomlkbgiboaaGreatDoor
open Go.RowKit

def invP (q:P4):Bs:=invL q.1 q.2.1 q.2.2.1 q.2.2.2 false
def authL (s:SrcT):List P4:=if s.author=[] then s.editor else s.author
def authK (s:SrcT):Bs:=Lib.join ((authL s).map invP) [44,32]
theorem invP_tk {ps:List P4} {k:Nat} {q:P4} (h:ps[k]? = some q):(ps.take (k+1)).map invP=(ps.take k).map invP ++ [invP q]:=by
 rw [List.take_succ,h,List.map_append]; rfl
set_option maxRecDepth 100000 in
set_option maxHeartbeats 6400000 in
theorem ciauthor_any (vA vE vF:Value) (s:SrcT) (w:World) (hA:Perss w vA s.author) (hE:Perss w vE s.editor) (hF:vF.oneCell'=true) (hl:(authL s).length≤1000) (hq:∀ q∈authL s,q.1.length+q.2.1.length+q.2.2.1.length+q.2.2.2.length≤1000000) (hj:(authK s).length≤1000000000) :
  Calls Tryz.prog 36 #[srcV s.key s.type vA vE vF] w fun e w'=>e=.returned (.string (bs (authK s)))∧Kept w w':=by
 obtain ⟨i0,hi,hz0,hz1,hz2⟩:=info_parts Tryz.infoStr
 obtain ⟨aA,cA,rfl,lA⟩:=hA.shape
 obtain ⟨aE,cE,rfl,lE⟩:=hE.shape
 have HK0:=Lib.hid (kept_alloc w (.cells #[.string (bs s.key),.string (bs s.type),.slice aA s.author.length cA,.slice aE s.editor.length cE,vF] 50))
 have HB0:=Lib.hid (Blk.new w 50 #[.string (bs s.key),.string (bs s.type),.slice aA s.author.length cA,.slice aE s.editor.length cE,vF])
 obtain ⟨skey,styp,au,ed,fs⟩:=s
 simp only at HK0 HB0 hA hE
 by_cases hz:au=[]
 ·have HL:Hid (authL ⟨skey,styp,au,ed,fs⟩=ed):=if_pos hz
  rw [HL.out] at hl hq
  have HJ:Hid (∀ v w',Strs w' v (ed.map invP)→Calls Tryz.prog 88 #[v,.string (bs [44,32])] w' fun e w''=>e=.returned (.string (bs (authK ⟨skey,styp,au,ed,fs⟩)))∧Kept w' w''):=fun v w' h=>by
   have:=join_any v (ed.map invP) [44,32] w' h (by rw [List.length_map]; omega) (by unfold authK at hj; rw [HL.out] at hj; exact hj)
   unfold authK
   rw [HL.out]; exact this
  generalize authK ⟨skey,styp,au,ed,fs⟩=R at *
  subst hz
  have HP:=Lib.hid (hE.kept HK0.out)
  have HQ:=Lib.hid hq
  clear hA hE hq hj HL
  go_enter Tryz.func36,Tryz.ntmps36
  go_wp2_with fail
  generalize w.alloc _=w1 at *
  go_loopw [4,16] (fun o i wr=>∃ (k:Nat),k≤ed.length∧i=.int .i64 k∧Hid (OutG StrK 1 (fun _=>False) w1.heap.size 9 wr o ((ed.take k).map invP))∧Hid (Kept w1 wr)) (fun _ i _=>ed.length - (intOf i).toNat)
  case atStart=>exact ⟨0,Nat.zero_le _,rfl,OutG.nil _ _ _ _ _ _,Kept.refl _⟩
  case round =>
   obtain ⟨k,hk,rfl,HGR,HKR⟩:=hrel
   by_cases hlt:k<ed.length
   ·obtain ⟨q,hx⟩:∃ x,ed[k]? = some x:=⟨_,List.getElem?_eq_getElem hlt⟩
    have hqs:=HQ.out q (List.mem_of_getElem? hx)
    have HT:=Lib.hid (invP_tk hx)
    obtain ⟨g,o,rfl,hg,d0,d1,d2,d3⟩:=(HP.out.kept HKR.out).at_ k q hx
    obtain ⟨us,HUS⟩:∃ us,Hid ((ed.take k).map invP=us):=⟨_,rfl⟩
    have hul:us.length≤1000:=by rw [← HUS.out,List.length_map,List.length_take]; omega
    rw [HUS.out] at HGR HT
    obtain ⟨nm,HNM⟩:∃ nm,Hid (invP q=nm):=⟨_,rfl⟩
    rw [HNM.out] at HT
    obtain ⟨q1,q2,q3,q4⟩:=q
    simp only at d0 d1 d2 d3 hqs
    have HKI:=Lib.hid (kept_alloc wr (.cells #[.string (bs q1),.string (bs q2),.string (bs q3),.string (bs q4)] 77))
    have HIN:=Lib.hid (inverted_any q1 q2 q3 q4 false (wr.alloc (.cells #[.string (bs q1),.string (bs q2),.string (bs q3),.string (bs q4)] 77)) (by omega))
    have HNM2:Hid (invL q1 q2 q3 q4 false=nm):=HNM.out
    rw [HNM2.out] at HIN
    clear hx HNM HNM2
    go_wp2_with fail
    refine HIN.out.mono ?_
    rintro e w3 ⟨rfl,hk3⟩
    have HK3:=Lib.hid (HKI.out.trans hk3)
    have HG3:=Lib.hid (HGR.out.kept strK HK3.out)
    have HROW:=Lib.hid (Blk.new w3 9 #[.string (bs nm)])
    have HK6:=Lib.hid (kept_alloc w3 (.cells #[.string (bs nm)] 9))
    have HG6:=Lib.hid (HG3.out.kept strK HK6.out)
    obtain ⟨ar,cr,rfl,hcr,hmr⟩:=HGR.out.form
    have hb6:w1.heap.size≤(w3.alloc (.cells #[.string (bs nm)] 9)).heap.size:=((HKR.out.trans HK3.out).trans HK6.out).size
    clear hk3 HIN HG3 d0 d1 d2 d3
    go_wp2_with (at_builtin; refine holdC ?_)
    refine Lib.hid ?_
    refine wpList_append_out strK rfl (.tmp 20) (.tmp 23) 29 rfl i0 _ 16 Tryz.underlying29 hi hz0 hz1 hz2 rfl (by omega) (by rfl) HG6.out _ [.string (bs nm)] nm (by rfl) (fun j u hu=>HROW.out.cell j u (by rw [← Array.getElem?_toList]; exact hu)) rfl rfl (by unfold maxLen; omega) (by omega) hb6 _ rfl ?_
    intro g7 c7' w7 hout7 hgrow7 hat7 hlt7
    have HOUT8:Hid (OutG StrK 1 (fun _=>False) w1.heap.size 9 w7 (.slice (some ⟨g7,0,none⟩) (us.length+1) c7') ((ed.take (k+1)).map invP)):=by rw [HT.out]; exact hout7
    have HK7:Hid (Kept w1 w7):=((HKR.out.trans HK3.out).trans HK6.out).trans' ((Only.grown hgrow7).below ((HKR.out.trans HK3.out).trans HK6.out).size (fun i q=>(HG6.out.blk i q.symm).1))
    clear hout7 hgrow7 hat7 HROW HK6 HG6 HK3 HKI HGR HKR HT HUS
    go_wp2_with fail
    go_roundw
    case rel=>exact ⟨k+1,by omega,by go_num,HOUT8.out,HK7.out⟩
    case measure=>simp [intOf]; omega
   ·obtain rfl:k=ed.length:=by omega
    rw [List.take_length] at HGR
    obtain ⟨ms,HMS⟩:∃ ms,Hid (ed.map invP=ms):=⟨_,rfl⟩
    rw [HMS.out] at HGR HJ
    obtain ⟨ar,cr,rfl,hcr,hmr⟩:=HGR.out.form
    have HJX:=Lib.hid (HJ.out _ wr (Strs.outO HGR.out))
    have HKZ:=Lib.hid (HK0.out.trans HKR.out)
    clear HGR HKR HJ
    go_wp2_with fail
    refine HJX.out.mono ?_
    rintro e w8 ⟨rfl,hk8⟩
    have HKY:=Lib.hid (HKZ.out.trans hk8)
    clear hk8 HJX
    go_wp2_with fail
    (try go_ret)
    exact ⟨rfl,HKY.out⟩
 ·have HL:Hid (authL ⟨skey,styp,au,ed,fs⟩=au):=if_neg hz
  rw [HL.out] at hl hq
  have HJ:Hid (∀ v w',Strs w' v (au.map invP)→Calls Tryz.prog 88 #[v,.string (bs [44,32])] w' fun e w''=>e=.returned (.string (bs (authK ⟨skey,styp,au,ed,fs⟩)))∧Kept w' w''):=fun v w' h=>by
   have:=join_any v (au.map invP) [44,32] w' h (by rw [List.length_map]; omega) (by unfold authK at hj; rw [HL.out] at hj; exact hj)
   unfold authK
   rw [HL.out]; exact this
  generalize authK ⟨skey,styp,au,ed,fs⟩=R at *
  have hnz:0<au.length:=by
     rcases Nat.eq_zero_or_pos au.length with e | e
     ·exact absurd (List.length_eq_zero_iff.1 e) hz
     ·exact e
  have hnz1:¬ au.length=0:=by omega
  have hnz2:decide ((au.length:Int)=0)=false:=decide_eq_false (by omega)
  clear hz
  have HP:=Lib.hid (hA.kept HK0.out)
  have HQ:=Lib.hid hq
  clear hA hE hq hj HL
  go_enter Tryz.func36,Tryz.ntmps36
  go_wp2_with fail
  generalize w.alloc _=w1 at *
  go_loopw [4,16] (fun o i wr=>∃ (k:Nat),k≤au.length∧i=.int .i64 k∧Hid (OutG StrK 1 (fun _=>False) w1.heap.size 9 wr o ((au.take k).map invP))∧Hid (Kept w1 wr)) (fun _ i _=>au.length - (intOf i).toNat)
  case atStart=>exact ⟨0,Nat.zero_le _,rfl,OutG.nil _ _ _ _ _ _,Kept.refl _⟩
  case round =>
   obtain ⟨k,hk,rfl,HGR,HKR⟩:=hrel
   by_cases hlt:k<au.length
   ·obtain ⟨q,hx⟩:∃ x,au[k]? = some x:=⟨_,List.getElem?_eq_getElem hlt⟩
    have hqs:=HQ.out q (List.mem_of_getElem? hx)
    have HT:=Lib.hid (invP_tk hx)
    obtain ⟨g,o,rfl,hg,d0,d1,d2,d3⟩:=(HP.out.kept HKR.out).at_ k q hx
    obtain ⟨us,HUS⟩:∃ us,Hid ((au.take k).map invP=us):=⟨_,rfl⟩
    have hul:us.length≤1000:=by rw [← HUS.out,List.length_map,List.length_take]; omega
    rw [HUS.out] at HGR HT
    obtain ⟨nm,HNM⟩:∃ nm,Hid (invP q=nm):=⟨_,rfl⟩
    rw [HNM.out] at HT
    obtain ⟨q1,q2,q3,q4⟩:=q
    simp only at d0 d1 d2 d3 hqs
    have HKI:=Lib.hid (kept_alloc wr (.cells #[.string (bs q1),.string (bs q2),.string (bs q3),.string (bs q4)] 77))
    have HIN:=Lib.hid (inverted_any q1 q2 q3 q4 false (wr.alloc (.cells #[.string (bs q1),.string (bs q2),.string (bs q3),.string (bs q4)] 77)) (by omega))
    have HNM2:Hid (invL q1 q2 q3 q4 false=nm):=HNM.out
    rw [HNM2.out] at HIN
    clear hx HNM HNM2
    go_wp2_with fail
    refine HIN.out.mono ?_
    rintro e w3 ⟨rfl,hk3⟩
    have HK3:=Lib.hid (HKI.out.trans hk3)
    have HG3:=Lib.hid (HGR.out.kept strK HK3.out)
    have HROW:=Lib.hid (Blk.new w3 9 #[.string (bs nm)])
    have HK6:=Lib.hid (kept_alloc w3 (.cells #[.string (bs nm)] 9))
    have HG6:=Lib.hid (HG3.out.kept strK HK6.out)
    obtain ⟨ar,cr,rfl,hcr,hmr⟩:=HGR.out.form
    have hb6:w1.heap.size≤(w3.alloc (.cells #[.string (bs nm)] 9)).heap.size:=((HKR.out.trans HK3.out).trans HK6.out).size
    clear hk3 HIN HG3 d0 d1 d2 d3
    go_wp2_with (at_builtin; refine holdC ?_)
    refine Lib.hid ?_
    refine wpList_append_out strK rfl (.tmp 20) (.tmp 23) 29 rfl i0 _ 16 Tryz.underlying29 hi hz0 hz1 hz2 rfl (by omega) (by rfl) HG6.out _ [.string (bs nm)] nm (by rfl) (fun j u hu=>HROW.out.cell j u (by rw [← Array.getElem?_toList]; exact hu)) rfl rfl (by unfold maxLen; omega) (by omega) hb6 _ rfl ?_
    intro g7 c7' w7 hout7 hgrow7 hat7 hlt7
    have HOUT8:Hid (OutG StrK 1 (fun _=>False) w1.heap.size 9 w7 (.slice (some ⟨g7,0,none⟩) (us.length+1) c7') ((au.take (k+1)).map invP)):=by rw [HT.out]; exact hout7
    have HK7:Hid (Kept w1 w7):=((HKR.out.trans HK3.out).trans HK6.out).trans' ((Only.grown hgrow7).below ((HKR.out.trans HK3.out).trans HK6.out).size (fun i q=>(HG6.out.blk i q.symm).1))
    clear hout7 hgrow7 hat7 HROW HK6 HG6 HK3 HKI HGR HKR HT HUS
    go_wp2_with fail
    go_roundw
    case rel=>exact ⟨k+1,by omega,by go_num,HOUT8.out,HK7.out⟩
    case measure=>simp [intOf]; omega
   ·obtain rfl:k=au.length:=by omega
    rw [List.take_length] at HGR
    obtain ⟨ms,HMS⟩:∃ ms,Hid (au.map invP=ms):=⟨_,rfl⟩
    rw [HMS.out] at HGR HJ
    obtain ⟨ar,cr,rfl,hcr,hmr⟩:=HGR.out.form
    have HJX:=Lib.hid (HJ.out _ wr (Strs.outO HGR.out))
    have HKZ:=Lib.hid (HK0.out.trans HKR.out)
    clear HGR HKR HJ
    go_wp2_with fail
    refine HJX.out.mono ?_
    rintro e w8 ⟨rfl,hk8⟩
    have HKY:=Lib.hid (HKZ.out.trans hk8)
    clear hk8 HJX
    go_wp2_with fail
    (try go_ret)
    exact ⟨rfl,HKY.out⟩
end Go.Proofs.YtmcoomlkbgiboaaGreatDoor

/- slices.insertionSortCmpFunc at cite's sortables. Conditions: what is asked of the comparison. -/
set_option linter.all false
namespace Go.Proofs.YtmcoomlkbgiboaaGreatDoor
open Go.RowKit Go.Sort

instance inhSorT:Inhabited SorT:=⟨⟨⟨[],0,[],[]⟩,⟨[],[],[],[],[]⟩⟩⟩
theorem toList_atS {d:Array SorT} {i:Nat} (h:i<d.size):d.toList[i]? = some d[i]! := by
 rw [Array.getElem?_toList,Array.getElem?_eq_getElem h,getElem!_pos d i h]
theorem swp_listS (d:Array SorT) (i j:Nat) (hi:i<d.size) (hj:j<d.size):(swp d i j).toList=(d.toList.set i d[j]!).set j d[i]! := by
 unfold swp
 rw [Array.toList_setIfInBounds,Array.toList_setIfInBounds]
theorem swp_memS {d:Array SorT} {i j:Nat} (hi:i<d.size) (hj:j<d.size) {p:SorT→Prop} (h:∀ x∈d.toList,p x):∀ x∈(swp d i j).toList,p x:=by
 intro x hx
 rw [swp_listS d i j hi hj] at hx
 have at_:∀ i,i<d.size→p d[i]! := fun i q=>h _ (List.mem_of_getElem? (toList_atS q))
 rcases List.mem_or_eq_of_mem_set hx with hx | rfl
 ·rcases List.mem_or_eq_of_mem_set hx with hx | rfl
  ·exact h x hx
  ·exact at_ j hj
 ·exact at_ i hi
def SrtS (g cap base:Nat) (A:Nat→Prop) (d':Array SorT) (w:World) (e:Ending) (w':World):Prop:=e=.returned (.tuple #[])∧OutG SorK 9 A base 86 w' (.slice (some ⟨g,0,none⟩) d'.size cap) d'.toList∧Only (fun i=>i=g) w w'
set_option maxRecDepth 100000 in
set_option maxHeartbeats 6400000 in
theorem isortS_any (C C2 base:Nat) (A:Nat→Prop) (cf:SorT→SorT→Int) (good:SorT→Prop) (g cap a b:Nat) (d:Array SorT) (w:World)
  (hO:OutG SorK 9 A base 86 w (.slice (some ⟨g,0,none⟩) d.size cap) d.toList) (hg:∀ x∈d.toList,good x) (hab:a≤b) (hb:b≤d.size) (hsz:d.size≤1000000)
  (hcmp:∀ (w':World) (cs ds:List Value) (x y:SorT),Only (fun i=>i=g) w w'→good x→good y→SorK (fun i=>A i∧g≠i) w' cs x→SorK (fun i=>A i∧g≠i) w' ds y →
   Calls Tryz.prog 41 #[.agg cs.toArray,.agg ds.toArray,.pointer (some ⟨C,0,none⟩),.pointer (some ⟨C2,0,none⟩)] w' fun e w''=>e=.returned (.int .i64 (cf x y))∧Kept w' w'') :
  Calls Tryz.prog 142 #[.slice (some ⟨g,0,none⟩) d.size cap,.int .i64 a,.int .i64 b,.func (.func 41) #[] #[.pointer (some ⟨C,0,none⟩),.pointer (some ⟨C2,0,none⟩)]] w
   (SrtS g cap base A (insertionSort (ltS cf) d a b) w):=by
 have HFIN:Hid (∀ (w':World) (dk:Array SorT),OutG SorK 9 A base 86 w' (.slice (some ⟨g,0,none⟩) d.size cap) dk.toList→dk.size=d.size→Only (fun i=>i=g) w w'→insOuter (ltS cf) a b b dk=insOuter (ltS cf) a b (a+1) d→SrtS g cap base A (insertionSort (ltS cf) d a b) w (.returned (.tuple #[])) w'):=by
  intro w' dk h1 h2 h3 h4
  have h5:insertionSort (ltS cf) d a b=dk:=by unfold insertionSort; rw [← h4,insOuter_stop _ _ _ _ _ (Nat.lt_irrefl b)]
  rw [h5]
  exact ⟨rfl,by rw [h2]; exact h1,h3⟩
 generalize hP:SrtS g cap base A (insertionSort (ltS cf) d a b) w=P at *
 have HC:=Lib.hid hcmp
 have HO:=Lib.hid hO
 have HG:=Lib.hid hg
 clear hcmp hO hg hP
 go_enter Tryz.func142,Tryz.ntmps142
 go_wp2_with fail
 go_loopw [8] (fun vi wr=>∃ (i:Nat) (dk:Array SorT),vi=.int .i64 i∧a<i∧(i≤b∨i=a+1)∧dk.size=d.size∧Hid (OutG SorK 9 A base 86 wr (.slice (some ⟨g,0,none⟩) d.size cap) dk.toList)∧Hid (Only (fun i=>i=g) w wr)∧Hid (∀ x∈dk.toList,good x)∧Hid (insOuter (ltS cf) a b i dk=insOuter (ltS cf) a b (a+1) d)) (fun vi _=>b+1 - (intOf vi).toNat)
 case atStart=>exact ⟨a+1,d,by go_num,by omega,.inr rfl,rfl,HO.out,Only.of_kept (Kept.refl w),HG.out,rfl⟩
 case round =>
  obtain ⟨i,dk,rfl,hai,hib,hsk,HOR,HKR,HGR,HIR⟩:=hrel
  by_cases hlt:i<b
  ·have hltz:(i:Int)<(b:Int):=by omega
   go_wp2_with fail
   obtain ⟨wo,hwo⟩:∃ wo:World,wo=wr:=⟨_,rfl⟩
   rw [← hwo] at HOR HKR
   rw [← hwo]
   go_loopw [9] (fun vj wr=>∃ (j:Nat) (dj:Array SorT),vj=.int .i64 j∧a≤j∧j≤i∧dj.size=d.size∧Hid (OutG SorK 9 A base 86 wr (.slice (some ⟨g,0,none⟩) d.size cap) dj.toList)∧Hid (Only (fun i=>i=g) w wr)∧Hid (∀ x∈dj.toList,good x)∧Hid (insInner (ltS cf) a j dj=insInner (ltS cf) a i dk)) (fun vj _=>(intOf vj).toNat)
   case atStart=>exact ⟨i,dk,rfl,by omega,Nat.le_refl _,hsk,HOR.out,HKR.out,HGR.out,rfl⟩
   case round =>
    clear HOR HKR HGR hwo
    obtain ⟨j,dj,rfl,haj,hji,hsj,HOJ,HKJ,HGJ,HIJ⟩:=hrel
    have OUT:Hid ((j≤a∨ltS cf dj[j]! dj[j - 1]! = false)→insOuter (ltS cf) a b (i+1) dj=insOuter (ltS cf) a b (a+1) d):=fun hs=>by
     rw [← HIR.out,insOuter_go _ _ _ _ _ hlt,← HIJ.out,insInner_stop _ _ _ _ hs]
    by_cases hja:a<j
    ·obtain ⟨jp,HJP⟩:∃ jp,Hid (j=jp+1):=⟨j - 1,Lib.hid (by omega)⟩
     have hj1:j<dj.size:=by omega
     have hj2:jp<dj.size:=by have:=HJP.out; omega
     obtain ⟨x,HX⟩:∃ x,Hid (dj[j]! = x):=⟨_,rfl⟩
     obtain ⟨y,HY⟩:∃ x,Hid (dj[jp]! = x):=⟨_,rfl⟩
     have gx:=HGJ.out _ (List.mem_of_getElem? (toList_atS hj1))
     have gy:=HGJ.out _ (List.mem_of_getElem? (toList_atS hj2))
     obtain ⟨g1,cx,e1,hb1,hlt1,-,-,hlx,hcx,hrx⟩:=HOJ.out.at_ j _ (toList_atS hj1)
     obtain ⟨g2,cy,e2,-,-,-,-,hly,hcy,hry⟩:=HOJ.out.at_ jp _ (toList_atS hj2)
     cases e1; cases e2
     have OUT2:Hid (j≤a∨ltS cf x y=false→insOuter (ltS cf) a b (i+1) dj=insOuter (ltS cf) a b (a+1) d):=fun h=>OUT.out (by
      rw [HX.out,show j - 1=jp by have:=HJP.out; omega,HY.out]; exact h)
     have NXT:Hid (ltS cf x y=true→insInner (ltS cf) a jp (swp dj j jp)=insInner (ltS cf) a i dk):=fun h=>by
      have e:=HJP.out
      rw [← HIJ.out,insInner_go (ltS cf) a j dj hja (by rw [HX.out,show j - 1=jp by omega,HY.out]; exact h),show j - 1=jp by omega]
     have HSW:Hid ((swp dj j jp).toList=(dj.toList.set j y).set jp x):=by
      have:=swp_listS dj j jp hj1 hj2
      rw [HX.out,HY.out] at this; exact this
     have HGS:Hid (∀ x∈(swp dj j jp).toList,good x):=swp_memS hj1 hj2 HGJ.out
     rw [HX.out] at gx hrx
     rw [HY.out] at gy hry
     have HRX0:=Lib.hid hrx
     have HRY0:=Lib.hid hry
     obtain ⟨vA,vE,vF,rfl,⟨hA,-⟩,⟨hE,-⟩,hF,-⟩:=hrx
     obtain ⟨vA',vE',vF',rfl,⟨hA',-⟩,⟨hE',-⟩,hF',-⟩:=hry
     obtain ⟨⟨author,year,title,key⟩,⟨skey,styp,pa,pe,pf⟩⟩:=x
     obtain ⟨⟨author',year',title',key'⟩,⟨skey',styp',pa',pe',pf'⟩⟩:=y
     simp only at hA hE hF hA' hE' hF'
     obtain ⟨aA,cA,rfl,lA⟩:=hA.shape
     obtain ⟨aE,cE,rfl,lE⟩:=hE.shape
     obtain ⟨aF,cF,rfl,lF⟩:=hF.shape
     obtain ⟨aA',cA',rfl,lA'⟩:=hA'.shape
     obtain ⟨aE',cE',rfl,lE'⟩:=hE'.shape
     obtain ⟨aF',cF',rfl,lF'⟩:=hF'.shape
     unfold sorC at hcx hcy HRX0 HRY0
     simp only at hcx hcy HRX0 HRY0
     obtain ⟨op,hp11⟩:∃ op,jp * 9=op:=⟨_,rfl⟩
     have hj11:j * 9=op+9:=by have:=HJP.out; omega
     have x0:wr.cell? ⟨g,op+9,none⟩=some (.string (bs author)):=by have:=hcx 0 _ rfl; rw [hj11,Nat.add_assoc] at this; exact this
     have x1:wr.cell? ⟨g,op+10,none⟩=some (.int .i64 year):=by have:=hcx 1 _ rfl; rw [hj11,Nat.add_assoc] at this; exact this
     have x2:wr.cell? ⟨g,op+11,none⟩=some (.string (bs title)):=by have:=hcx 2 _ rfl; rw [hj11,Nat.add_assoc] at this; exact this
     have x3:wr.cell? ⟨g,op+12,none⟩=some (.string (bs key)):=by have:=hcx 3 _ rfl; rw [hj11,Nat.add_assoc] at this; exact this
     have x4:wr.cell? ⟨g,op+13,none⟩=some (.string (bs skey)):=by have:=hcx 4 _ rfl; rw [hj11,Nat.add_assoc] at this; exact this
     have x5:wr.cell? ⟨g,op+14,none⟩=some (.string (bs styp)):=by have:=hcx 5 _ rfl; rw [hj11,Nat.add_assoc] at this; exact this
     have x6:wr.cell? ⟨g,op+15,none⟩=some (.slice aA pa.length cA):=by have:=hcx 6 _ rfl; rw [hj11,Nat.add_assoc] at this; exact this
     have x7:wr.cell? ⟨g,op+16,none⟩=some (.slice aE pe.length cE):=by have:=hcx 7 _ rfl; rw [hj11,Nat.add_assoc] at this; exact this
     have x8:wr.cell? ⟨g,op+17,none⟩=some (.slice aF pf.length cF):=by have:=hcx 8 _ rfl; rw [hj11,Nat.add_assoc] at this; exact this
     have y0:wr.cell? ⟨g,op,none⟩=some (.string (bs author')):=by have:=hcy 0 _ rfl; rw [hp11] at this; exact this
     have y1:wr.cell? ⟨g,op+1,none⟩=some (.int .i64 year'):=by have:=hcy 1 _ rfl; rw [hp11] at this; exact this
     have y2:wr.cell? ⟨g,op+2,none⟩=some (.string (bs title')):=by have:=hcy 2 _ rfl; rw [hp11] at this; exact this
     have y3:wr.cell? ⟨g,op+3,none⟩=some (.string (bs key')):=by have:=hcy 3 _ rfl; rw [hp11] at this; exact this
     have y4:wr.cell? ⟨g,op+4,none⟩=some (.string (bs skey')):=by have:=hcy 4 _ rfl; rw [hp11] at this; exact this
     have y5:wr.cell? ⟨g,op+5,none⟩=some (.string (bs styp')):=by have:=hcy 5 _ rfl; rw [hp11] at this; exact this
     have y6:wr.cell? ⟨g,op+6,none⟩=some (.slice aA' pa'.length cA'):=by have:=hcy 6 _ rfl; rw [hp11] at this; exact this
     have y7:wr.cell? ⟨g,op+7,none⟩=some (.slice aE' pe'.length cE'):=by have:=hcy 7 _ rfl; rw [hp11] at this; exact this
     have y8:wr.cell? ⟨g,op+8,none⟩=some (.slice aF' pf'.length cF'):=by have:=hcy 8 _ rfl; rw [hp11] at this; exact this
     have hzg:g<wr.heap.size:=hlt1
     have HRX:=Lib.hid HRX0.out
     have HRY:=Lib.hid HRY0.out
     have wj:IntKind.i64.wrap ((j:Int) - 1)=(jp:Int):=by rw [IntKind.wrap_i64]; have:=HJP.out; omega
     have HS:Hid (∀ w',Kept wr w'→(w'.cell? ⟨g,op+9,none⟩=some (.string (bs author))∧w'.cell? ⟨g,op+10,none⟩=some (.int .i64 year)∧w'.cell? ⟨g,op+11,none⟩=some (.string (bs title))∧w'.cell? ⟨g,op+12,none⟩=some (.string (bs key))∧w'.cell? ⟨g,op+13,none⟩=some (.string (bs skey))∧w'.cell? ⟨g,op+14,none⟩=some (.string (bs styp))∧w'.cell? ⟨g,op+15,none⟩=some (.slice aA pa.length cA)∧w'.cell? ⟨g,op+16,none⟩=some (.slice aE pe.length cE)∧w'.cell? ⟨g,op+17,none⟩=some (.slice aF pf.length cF))∧(w'.cell? ⟨g,op,none⟩=some (.string (bs author'))∧w'.cell? ⟨g,op+1,none⟩=some (.int .i64 year')∧w'.cell? ⟨g,op+2,none⟩=some (.string (bs title'))∧w'.cell? ⟨g,op+3,none⟩=some (.string (bs key'))∧w'.cell? ⟨g,op+4,none⟩=some (.string (bs skey'))∧w'.cell? ⟨g,op+5,none⟩=some (.string (bs styp'))∧w'.cell? ⟨g,op+6,none⟩=some (.slice aA' pa'.length cA')∧w'.cell? ⟨g,op+7,none⟩=some (.slice aE' pe'.length cE')∧w'.cell? ⟨g,op+8,none⟩=some (.slice aF' pf'.length cF'))∧g<w'.heap.size∧Kept wr w'):=fun w' h=>⟨⟨(h.cell (p:=⟨g,op+9,none⟩) hzg).trans x0,(h.cell (p:=⟨g,op+10,none⟩) hzg).trans x1,(h.cell (p:=⟨g,op+11,none⟩) hzg).trans x2,(h.cell (p:=⟨g,op+12,none⟩) hzg).trans x3,(h.cell (p:=⟨g,op+13,none⟩) hzg).trans x4,(h.cell (p:=⟨g,op+14,none⟩) hzg).trans x5,(h.cell (p:=⟨g,op+15,none⟩) hzg).trans x6,(h.cell (p:=⟨g,op+16,none⟩) hzg).trans x7,(h.cell (p:=⟨g,op+17,none⟩) hzg).trans x8⟩,⟨(h.cell (p:=⟨g,op,none⟩) hzg).trans y0,(h.cell (p:=⟨g,op+1,none⟩) hzg).trans y1,(h.cell (p:=⟨g,op+2,none⟩) hzg).trans y2,(h.cell (p:=⟨g,op+3,none⟩) hzg).trans y3,(h.cell (p:=⟨g,op+4,none⟩) hzg).trans y4,(h.cell (p:=⟨g,op+5,none⟩) hzg).trans y5,(h.cell (p:=⟨g,op+6,none⟩) hzg).trans y6,(h.cell (p:=⟨g,op+7,none⟩) hzg).trans y7,(h.cell (p:=⟨g,op+8,none⟩) hzg).trans y8⟩,Nat.lt_of_lt_of_le hzg h.size,h⟩
     have q0:decide ((a:Int)<(j:Int))=true:=decide_eq_true (by omega)
     have q0':decide (a<j)=true:=decide_eq_true (by omega)
     have q1:(0:Int)≤(jp:Int):=by omega
     have q1':(0:Int)≤(j:Int):=by omega
     have q2:(j:Int)<(d.size:Int):=by omega
     have q3:(jp:Int)<(d.size:Int):=by omega
     have HCC:=Lib.hid (fun w' (k:Kept wr w')=>HC.out w' _ _ _ _ (HKJ.out.trans (Only.of_kept k)) gx gy (sorK.sam HRX.out (Sam.kept k) (fun _ _ q=>q)) (sorK.sam HRY.out (Sam.kept k) (fun _ _ q=>q)))
     obtain ⟨r,HR⟩:∃ r,Hid (cf ⟨⟨author,year,title,key⟩,⟨skey,styp,pa,pe,pf⟩⟩ ⟨⟨author',year',title',key'⟩,⟨skey',styp',pa',pe',pf'⟩⟩=r):=⟨_,rfl⟩
     unfold ltS at OUT2 NXT
     rw [HR.out] at HCC OUT2 NXT
     clear hA hE hF hA' hE' hF' gx gy hcx hcy hlx hly hlt1 hb1 HRX0 HRY0
     have hkd:Kept wr wr.drew:=kept_drewN wr 1
     by_cases hlv:r<0
     ·have hl1:decide (r<0)=true:=decide_eq_true hlv
      go_wp2_with fail
      go_region_held3 (fun w'=>(w'.cell? ⟨g,op+9,none⟩=some (.string (bs author))∧w'.cell? ⟨g,op+10,none⟩=some (.int .i64 year)∧w'.cell? ⟨g,op+11,none⟩=some (.string (bs title))∧w'.cell? ⟨g,op+12,none⟩=some (.string (bs key))∧w'.cell? ⟨g,op+13,none⟩=some (.string (bs skey))∧w'.cell? ⟨g,op+14,none⟩=some (.string (bs styp))∧w'.cell? ⟨g,op+15,none⟩=some (.slice aA pa.length cA)∧w'.cell? ⟨g,op+16,none⟩=some (.slice aE pe.length cE)∧w'.cell? ⟨g,op+17,none⟩=some (.slice aF pf.length cF))∧(w'.cell? ⟨g,op,none⟩=some (.string (bs author'))∧w'.cell? ⟨g,op+1,none⟩=some (.int .i64 year')∧w'.cell? ⟨g,op+2,none⟩=some (.string (bs title'))∧w'.cell? ⟨g,op+3,none⟩=some (.string (bs key'))∧w'.cell? ⟨g,op+4,none⟩=some (.string (bs skey'))∧w'.cell? ⟨g,op+5,none⟩=some (.string (bs styp'))∧w'.cell? ⟨g,op+6,none⟩=some (.slice aA' pa'.length cA')∧w'.cell? ⟨g,op+7,none⟩=some (.slice aE' pe'.length cE')∧w'.cell? ⟨g,op+8,none⟩=some (.slice aF' pf'.length cF'))∧g<w'.heap.size∧Kept wr w')
       ((refine HS.out _ ?_; assumption))
       (first | (go_at_call 41; refine (HCC.out _ (by assumption)).mono ?_; rintro e w5 ⟨rfl,hk5⟩; have kz:Kept wr w5:=Kept.trans (by assumption) hk5; have KZ:=Lib.hid kz; clear hk5))
      clear HS HCC
      have HO5:=Lib.hid (HOJ.out.kept sorK KZ.out)
      have HRX5:=Lib.hid (sorK.sam HRX.out (Sam.kept KZ.out) (fun _ _ q=>q))
      have HRY5:=Lib.hid (sorK.sam HRY.out (Sam.kept KZ.out) (fun _ _ q=>q))
      have hthj:∀ i,i<9→w5.frozen? ⟨g,op+(9+i),none⟩=false:=fun i hi=>by
       have:=(HO5.out.there j (by rw [Array.length_toList]; omega) i hi).2
       rw [hj11,Nat.add_assoc] at this; exact this
      have hthp:∀ i,i<9→w5.frozen? ⟨g,op+i,none⟩=false:=fun i hi=>by
       have:=(HO5.out.there jp (by rw [Array.length_toList]; omega) i hi).2
       rw [hp11] at this; exact this
      have z0:w5.cell? ⟨g,op+9,none⟩=some (.string (bs author)):=(KZ.out.cell (p:=⟨g,op+9,none⟩) hzg).trans x0
      have z1:w5.cell? ⟨g,op+10,none⟩=some (.int .i64 year):=(KZ.out.cell (p:=⟨g,op+10,none⟩) hzg).trans x1
      have z2:w5.cell? ⟨g,op+11,none⟩=some (.string (bs title)):=(KZ.out.cell (p:=⟨g,op+11,none⟩) hzg).trans x2
      have z3:w5.cell? ⟨g,op+12,none⟩=some (.string (bs key)):=(KZ.out.cell (p:=⟨g,op+12,none⟩) hzg).trans x3
      have z4:w5.cell? ⟨g,op+13,none⟩=some (.string (bs skey)):=(KZ.out.cell (p:=⟨g,op+13,none⟩) hzg).trans x4
      have z5:w5.cell? ⟨g,op+14,none⟩=some (.string (bs styp)):=(KZ.out.cell (p:=⟨g,op+14,none⟩) hzg).trans x5
      have z6:w5.cell? ⟨g,op+15,none⟩=some (.slice aA pa.length cA):=(KZ.out.cell (p:=⟨g,op+15,none⟩) hzg).trans x6
      have z7:w5.cell? ⟨g,op+16,none⟩=some (.slice aE pe.length cE):=(KZ.out.cell (p:=⟨g,op+16,none⟩) hzg).trans x7
      have z8:w5.cell? ⟨g,op+17,none⟩=some (.slice aF pf.length cF):=(KZ.out.cell (p:=⟨g,op+17,none⟩) hzg).trans x8
      have u0:w5.cell? ⟨g,op,none⟩=some (.string (bs author')):=(KZ.out.cell (p:=⟨g,op,none⟩) hzg).trans y0
      have u1:w5.cell? ⟨g,op+1,none⟩=some (.int .i64 year'):=(KZ.out.cell (p:=⟨g,op+1,none⟩) hzg).trans y1
      have u2:w5.cell? ⟨g,op+2,none⟩=some (.string (bs title')):=(KZ.out.cell (p:=⟨g,op+2,none⟩) hzg).trans y2
      have u3:w5.cell? ⟨g,op+3,none⟩=some (.string (bs key')):=(KZ.out.cell (p:=⟨g,op+3,none⟩) hzg).trans y3
      have u4:w5.cell? ⟨g,op+4,none⟩=some (.string (bs skey')):=(KZ.out.cell (p:=⟨g,op+4,none⟩) hzg).trans y4
      have u5:w5.cell? ⟨g,op+5,none⟩=some (.string (bs styp')):=(KZ.out.cell (p:=⟨g,op+5,none⟩) hzg).trans y5
      have u6:w5.cell? ⟨g,op+6,none⟩=some (.slice aA' pa'.length cA'):=(KZ.out.cell (p:=⟨g,op+6,none⟩) hzg).trans y6
      have u7:w5.cell? ⟨g,op+7,none⟩=some (.slice aE' pe'.length cE'):=(KZ.out.cell (p:=⟨g,op+7,none⟩) hzg).trans y7
      have u8:w5.cell? ⟨g,op+8,none⟩=some (.slice aF' pf'.length cF'):=(KZ.out.cell (p:=⟨g,op+8,none⟩) hzg).trans y8
      have fx0:w5.frozen? ⟨g,op+9,none⟩=false:=hthj 0 (by omega)
      have fx1:w5.frozen? ⟨g,op+10,none⟩=false:=hthj 1 (by omega)
      have fx2:w5.frozen? ⟨g,op+11,none⟩=false:=hthj 2 (by omega)
      have fx3:w5.frozen? ⟨g,op+12,none⟩=false:=hthj 3 (by omega)
      have fx4:w5.frozen? ⟨g,op+13,none⟩=false:=hthj 4 (by omega)
      have fx5:w5.frozen? ⟨g,op+14,none⟩=false:=hthj 5 (by omega)
      have fx6:w5.frozen? ⟨g,op+15,none⟩=false:=hthj 6 (by omega)
      have fx7:w5.frozen? ⟨g,op+16,none⟩=false:=hthj 7 (by omega)
      have fx8:w5.frozen? ⟨g,op+17,none⟩=false:=hthj 8 (by omega)
      have fy0:w5.frozen? ⟨g,op,none⟩=false:=hthp 0 (by omega)
      have fy1:w5.frozen? ⟨g,op+1,none⟩=false:=hthp 1 (by omega)
      have fy2:w5.frozen? ⟨g,op+2,none⟩=false:=hthp 2 (by omega)
      have fy3:w5.frozen? ⟨g,op+3,none⟩=false:=hthp 3 (by omega)
      have fy4:w5.frozen? ⟨g,op+4,none⟩=false:=hthp 4 (by omega)
      have fy5:w5.frozen? ⟨g,op+5,none⟩=false:=hthp 5 (by omega)
      have fy6:w5.frozen? ⟨g,op+6,none⟩=false:=hthp 6 (by omega)
      have fy7:w5.frozen? ⟨g,op+7,none⟩=false:=hthp 7 (by omega)
      have fy8:w5.frozen? ⟨g,op+8,none⟩=false:=hthp 8 (by omega)
      clear hthj hthp
      go_wp2_with fail
      go_region
      clear z0 u0 fx0 fy0 z1 u1 fx1 fy1 z2 u2 fx2 fy2 z3 u3 fx3 fy3 z4 u4 fx4 fy4 z5 u5 fx5 fy5 z6 u6 fx6 fy6 z7 u7 fx7 fy7 z8 u8 fx8 fy8
      generalize hW:World.drew _=w8
      have hW2:((w5.setCells g (op+9) [.string (bs author'),.int .i64 year',.string (bs title'),.string (bs key'),.string (bs skey'),.string (bs styp'),.slice aA' pa'.length cA',.slice aE' pe'.length cE',.slice aF' pf'.length cF']).setCells g op [.string (bs author),.int .i64 year,.string (bs title),.string (bs key),.string (bs skey),.string (bs styp),.slice aA pa.length cA,.slice aE pe.length cE,.slice aF pf.length cF]).drew=w8:=hW
      clear hW
      have ho6:=HO5.out.put sorK j (by rw [Array.length_toList]; exact hj1) [.string (bs author'),.int .i64 year',.string (bs title'),.string (bs key'),.string (bs skey'),.string (bs styp'),.slice aA' pa'.length cA',.slice aE' pe'.length cE',.slice aF' pf'.length cF'] _ rfl HRY5.out
      rw [hj11] at ho6
      have hrx6:=sorK.sam HRX5.out (Sam.only (only_cells [.string (bs author'),.int .i64 year',.string (bs title'),.string (bs key'),.string (bs skey'),.string (bs styp'),.slice aA' pa'.length cA',.slice aE' pe'.length cE',.slice aF' pf'.length cF'] (op+9) w5) (fun _ _ q h=>q.2 h.symm)) (fun _ _ q=>q)
      have ho7:=ho6.put sorK jp (by rw [List.length_set,Array.length_toList]; exact hj2) [.string (bs author),.int .i64 year,.string (bs title),.string (bs key),.string (bs skey),.string (bs styp),.slice aA pa.length cA,.slice aE pe.length cE,.slice aF pf.length cF] _ rfl hrx6
      rw [hp11,← HSW.out] at ho7
      have HO8:Hid (OutG SorK 9 A base 86 w8 (.slice (some ⟨g,0,none⟩) d.size cap) (swp dj j jp).toList):=by rw [← hW2]; exact ho7.kept sorK (kept_drewN _ 1)
      have HK8:Hid (Only (fun i=>i=g) w w8):=by
       rw [← hW2]
       exact (HKJ.out.trans (Only.of_kept KZ.out)).trans (((only_cells _ _ _).trans (only_cells _ _ _)).trans (Only.of_kept (kept_drewN _ 1)))
      have HN8:=Lib.hid (NXT.out hl1)
      have hsz8:(swp dj j jp).size=d.size:=by rw [size_swp]; exact hsj
      clear ho6 hrx6 ho7 hW2 HO5 HRX5 HRY5 HSW NXT OUT OUT2
      go_wp2_with fail
      go_roundw
      case rel=>exact ⟨jp,swp dj j jp,rfl,by have:=HJP.out; omega,by have:=HJP.out; omega,hsz8,HO8.out,HK8.out,HGS.out,HN8.out⟩
      case measure=>have:=HJP.out; simp [intOf]; omega
     ·have hl1:decide (r<0)=false:=decide_eq_false hlv
      go_wp2_with fail
      go_region_held3 (fun w'=>(w'.cell? ⟨g,op+9,none⟩=some (.string (bs author))∧w'.cell? ⟨g,op+10,none⟩=some (.int .i64 year)∧w'.cell? ⟨g,op+11,none⟩=some (.string (bs title))∧w'.cell? ⟨g,op+12,none⟩=some (.string (bs key))∧w'.cell? ⟨g,op+13,none⟩=some (.string (bs skey))∧w'.cell? ⟨g,op+14,none⟩=some (.string (bs styp))∧w'.cell? ⟨g,op+15,none⟩=some (.slice aA pa.length cA)∧w'.cell? ⟨g,op+16,none⟩=some (.slice aE pe.length cE)∧w'.cell? ⟨g,op+17,none⟩=some (.slice aF pf.length cF))∧(w'.cell? ⟨g,op,none⟩=some (.string (bs author'))∧w'.cell? ⟨g,op+1,none⟩=some (.int .i64 year')∧w'.cell? ⟨g,op+2,none⟩=some (.string (bs title'))∧w'.cell? ⟨g,op+3,none⟩=some (.string (bs key'))∧w'.cell? ⟨g,op+4,none⟩=some (.string (bs skey'))∧w'.cell? ⟨g,op+5,none⟩=some (.string (bs styp'))∧w'.cell? ⟨g,op+6,none⟩=some (.slice aA' pa'.length cA')∧w'.cell? ⟨g,op+7,none⟩=some (.slice aE' pe'.length cE')∧w'.cell? ⟨g,op+8,none⟩=some (.slice aF' pf'.length cF'))∧g<w'.heap.size∧Kept wr w')
       ((refine HS.out _ ?_; assumption))
       (first | (go_at_call 41; refine (HCC.out _ (by assumption)).mono ?_; rintro e w5 ⟨rfl,hk5⟩; have kz:Kept wr w5:=Kept.trans (by assumption) hk5; have KZ:=Lib.hid kz; clear hk5))
      clear HS HCC
      have HO5:=Lib.hid (HOJ.out.kept sorK KZ.out)
      have HK5:Hid (Only (fun i=>i=g) w w5):=HKJ.out.trans (Only.of_kept KZ.out)
      have HN5:=Lib.hid (OUT2.out (.inr hl1))
      clear OUT OUT2 NXT HSW
      go_wp2_with fail
      go_roundw
      case rel=>exact ⟨i+1,dj,by go_num,by omega,.inl (by omega),hsj,HO5.out,HK5.out,HGJ.out,HN5.out⟩
      case measure=>simp [intOf]; omega
    ·have q0:decide ((a:Int)<(j:Int))=false:=decide_eq_false (by omega)
     have q0':decide (a<j)=false:=decide_eq_false hja
     have HN5:=Lib.hid (OUT.out (.inl (by omega)))
     clear OUT
     go_wp2_with fail
     go_quiet (fail)
     go_wp2_with fail
     go_roundw
     case rel=>exact ⟨i+1,dj,by go_num,by omega,.inl (by omega),hsj,HOJ.out.kept sorK (kept_drewN wr _),HKJ.out.trans (Only.of_kept (kept_drewN wr _)),HGJ.out,HN5.out⟩
     case measure=>simp [intOf]; omega
  ·have hltz:¬ (i:Int)<(b:Int):=by omega
   have HF:=Lib.hid (HFIN.out wr dk HOR.out hsk HKR.out (by rw [← HIR.out,insOuter_stop _ _ _ _ _ hlt,insOuter_stop _ _ _ _ _ (Nat.lt_irrefl b)]))
   go_wp2_with fail
   go_end0
   exact HF.out
end Go.Proofs.YtmcoomlkbgiboaaGreatDoor

/- slices.stableCmpFunc and SortStableFunc at cite's sortables, nineteen at most. Conditions: what is asked of the comparison. -/
set_option linter.all false
namespace Go.Proofs.YtmcoomlkbgiboaaGreatDoor
open Go.RowKit Go.Sort

theorem isortS_nil (v fv:Value) (w:World) :
  Calls Tryz.prog 142 #[v,.int .i64 0,.int .i64 0,fv] w fun e w'=>e=.returned (.tuple #[])∧w'=w:=by
 go_enter Tryz.func142,Tryz.ntmps142
 go_wp2_with fail
 go_loopw [8] (fun vi wr=>vi=.int .i64 1∧w=wr) (fun _ _=>0)
 case atStart=>exact ⟨rfl,rfl⟩
 case round =>
  obtain ⟨rfl,rfl⟩:=hrel
  go_wp2_with fail
  go_end0
  exact ⟨rfl,rfl⟩
/-- Blocks sorted, the order of equals kept. -/
def srtS (cf:SorT→SorT→Int) (xs:List SorT):List SorT:=(insertionSort (ltS cf) xs.toArray 0 xs.length).toList
theorem insInner_sizeS (lt:SorT→SorT→Bool) (a:Nat):∀ (j:Nat) (d:Array SorT),(insInner lt a j d).size=d.size
 | 0,d=>rfl
 | j+1,d=>by
  unfold insInner
  split
  ·rw [insInner_sizeS lt a j,size_swp]
  ·rfl
theorem insOuter_sizeS (lt:SorT→SorT→Bool) (a b:Nat):∀ (n i:Nat) (d:Array SorT),b - i≤n→(insOuter lt a b i d).size=d.size
 | 0,i,d,h=>by rw [insOuter_stop _ _ _ _ _ (by omega)]
 | n+1,i,d,h=>by
  by_cases q:i<b
  ·rw [insOuter_go _ _ _ _ _ q,insOuter_sizeS lt a b n (i+1) _ (by omega),insInner_sizeS]
  ·rw [insOuter_stop _ _ _ _ _ q]
theorem srtS_len (cf:SorT→SorT→Int) (xs:List SorT):(srtS cf xs).length=xs.length:=by
 unfold srtS insertionSort
 rw [Array.length_toList,insOuter_sizeS _ _ _ _ _ _ (Nat.le_refl _),List.size_toArray]
theorem srtS_nil (cf:SorT→SorT→Int):srtS cf []=[]:=List.length_eq_zero_iff.1 (srtS_len cf [])
def SrsS (base:Nat) (A:Nat→Prop) (v:Value) (zs:List SorT) (w:World) (e:Ending) (w':World):Prop:=e=.returned (.tuple #[])∧OutG SorK 9 A base 86 w' v zs∧Only (fun i=>v.ownBlock=some i) w w'
set_option maxRecDepth 100000 in
set_option maxHeartbeats 3200000 in
theorem stabS_any (C C2 base:Nat) (A:Nat→Prop) (cf:SorT→SorT→Int) (good:SorT→Prop) (v:Value) (xs:List SorT) (w:World)
  (hO:OutG SorK 9 A base 86 w v xs) (hg:∀ x∈xs,good x) (hl:xs.length≤19)
  (hcmp:∀ (w':World) (cs ds:List Value) (x y:SorT),Only (fun i=>v.ownBlock=some i) w w'→good x→good y→SorK (fun i=>A i∧v.ownBlock≠some i) w' cs x→SorK (fun i=>A i∧v.ownBlock≠some i) w' ds y →
   Calls Tryz.prog 41 #[.agg cs.toArray,.agg ds.toArray,.pointer (some ⟨C,0,none⟩),.pointer (some ⟨C2,0,none⟩)] w' fun e w''=>e=.returned (.int .i64 (cf x y))∧Kept w' w'') :
  Calls Tryz.prog 94 #[v,.int .i64 xs.length,.func (.func 41) #[] #[.pointer (some ⟨C,0,none⟩),.pointer (some ⟨C2,0,none⟩)]] w (SrsS base A v (srtS cf xs) w):=by
 have HS:Hid (Calls Tryz.prog 142 #[v,.int .i64 0,.int .i64 xs.length,.func (.func 41) #[] #[.pointer (some ⟨C,0,none⟩),.pointer (some ⟨C2,0,none⟩)]] w (SrsS base A v (srtS cf xs) w)):=by
  by_cases hn:xs.length=0
  ·obtain rfl:xs=[]:=List.length_eq_zero_iff.1 hn
   refine (isortS_nil v _ w).mono ?_
   rintro e w' ⟨rfl,rfl⟩
   rw [srtS_nil]
   exact ⟨rfl,hO,Only.of_kept (Kept.refl _)⟩
  ·obtain ⟨a,c,rfl,hc,hm⟩:=hO.form
   obtain ⟨g,cs,rfl,-⟩:=hO.at_ 0 xs[0] (List.getElem?_eq_getElem (by omega))
   have e0:∀ i,(Value.slice (some ⟨g,0,none⟩) xs.length c).ownBlock=some i↔i=g:=fun i=>by
    constructor
    ·intro h; have:g=i:=by simpa [Value.ownBlock] using h
     exact this.symm
    ·rintro rfl; rfl
   have e1:(fun i=>A i∧(Value.slice (some ⟨g,0,none⟩) xs.length c).ownBlock≠some i)=(fun i=>A i∧g≠i):=by
    funext i; simp [Value.ownBlock]
   have e2:(fun i=>(Value.slice (some ⟨g,0,none⟩) xs.length c).ownBlock=some i)=(fun i=>i=g):=by
    funext i; exact propext (e0 i)
   have:=isortS_any C C2 base A cf good g c 0 xs.length xs.toArray w (by simpa using hO) (by simpa using hg) (Nat.zero_le _) (by simp) (by simp; omega) (fun w' cs ds x y h1 h2 h3 h4 h5=>hcmp w' cs ds x y (by rw [e2]; exact h1) h2 h3 (by rw [e1]; exact h4) (by rw [e1]; exact h5))
   refine Calls.mono (by simpa using this) ?_
   rintro e w' ⟨r1,r2,r3⟩
   refine ⟨r1,?_,by rw [e2]; exact r3⟩
   have hz:(insertionSort (ltS cf) xs.toArray 0 xs.length).size=xs.length:=by
    have:=srtS_len cf xs; unfold srtS at this; rwa [Array.length_toList] at this
   rw [hz] at r2
   exact r2
 have HS2:Hid (Calls Tryz.prog 142 #[v,.int .i64 0,.int .i64 xs.length,.func (.func 41) #[] #[.pointer (some ⟨C,0,none⟩),.pointer (some ⟨C2,0,none⟩)]] w (fun e w'=>e=.returned (.tuple #[])∧Hid (SrsS base A v (srtS cf xs) w (.returned (.tuple #[])) w'))):=by
  refine HS.out.mono ?_
  rintro e w' ⟨rfl,h2,h3⟩
  exact ⟨rfl,rfl,h2,h3⟩
 have hl':(xs.length:Int)≤19:=by omega
 clear HS
 generalize hQ:SrsS base A v (srtS cf xs) w=Q at *
 clear hO hg hcmp hQ
 have q1:decide ((20:Int)≤(xs.length:Int))=false:=decide_eq_false (by omega)
 have q2:decide ((20:Int)<(xs.length:Int))=false:=decide_eq_false (by omega)
 have q1':decide (20≤xs.length)=false:=decide_eq_false (by omega)
 have q2':decide (20<xs.length)=false:=decide_eq_false (by omega)
 go_enter Tryz.func94,Tryz.ntmps94
 go_wp2_with fail
 go_loopw [7,8] (fun va vb wr=>va=.int .i64 0∧vb=.int .i64 20∧w=wr) (fun _ _ _=>0)
 case atStart=>exact ⟨rfl,rfl,rfl⟩
 case round =>
  obtain ⟨rfl,rfl,rfl⟩:=hrel
  go_wp2_with fail
  refine HS2.out.mono ?_
  rintro e w1 ⟨rfl,HQ⟩
  clear HS2
  go_wp2_with fail
  go_loopw [6,7,8,9] (fun v6 v7 v8 v9 wr=>v6=.int .i64 20∧w1=wr) (fun _ _ _ _ _=>0)
  case atStart=>exact ⟨rfl,rfl⟩
  case round =>
   obtain ⟨rfl,rfl⟩:=hrel
   go_wp2_with fail
   go_end0
   exact HQ.out
set_option maxRecDepth 100000 in
theorem sortsS_any (C C2 base:Nat) (A:Nat→Prop) (cf:SorT→SorT→Int) (good:SorT→Prop) (v:Value) (xs:List SorT) (w:World)
  (hO:OutG SorK 9 A base 86 w v xs) (hg:∀ x∈xs,good x) (hl:xs.length≤19)
  (hcmp:∀ (w':World) (cs ds:List Value) (x y:SorT),Only (fun i=>v.ownBlock=some i) w w'→good x→good y→SorK (fun i=>A i∧v.ownBlock≠some i) w' cs x→SorK (fun i=>A i∧v.ownBlock≠some i) w' ds y →
   Calls Tryz.prog 41 #[.agg cs.toArray,.agg ds.toArray,.pointer (some ⟨C,0,none⟩),.pointer (some ⟨C2,0,none⟩)] w' fun e w''=>e=.returned (.int .i64 (cf x y))∧Kept w' w'') :
  Calls Tryz.prog 40 #[v,.func (.func 41) #[] #[.pointer (some ⟨C,0,none⟩),.pointer (some ⟨C2,0,none⟩)]] w (SrsS base A v (srtS cf xs) w):=by
 have HS:=Lib.hid (stabS_any C C2 base A cf good v xs w hO hg hl hcmp)
 obtain ⟨a,c,rfl,-⟩:=hO.form
 unfold SrsS at HS ⊢
 clear hO hg hcmp
 go_enter Tryz.func40,Tryz.ntmps40
 go_wp2_with fail
 refine HS.out.mono ?_
 rintro e w1 ⟨rfl,h2,h3⟩
 go_wp2_with fail
 go_end0
 exact ⟨rfl,h2,h3⟩
end Go.Proofs.YtmcoomlkbgiboaaGreatDoor
