/- joined, Full, Short of package person and of its reference. Conditions: lengths. -/
import Derived.Test.YtmcoomlkbgiboaaGreatDoorK15
import Derived.Test.YtmcoomlkbgiboaaGreatDoorK09
import Derived.Test.YtmcoomlkbgiboaaGreatDoorK10
import Derived.Test.YtmcoomlkbgiboaaGreatDoorK06
import Derived.Test.YtmcoomlkbgiboaaGreatDoorK02

set_option linter.all false
namespace Go.Proofs.YtmcoomlkbgiboaaGreatDoor
open Go.RowKit

def joinedL (xs:List Bs):Bs:=Lib.join (xs.filter nonE) [32]
def bulk (xs:List Bs):Nat:=(xs.map (fun x=>x.length+1)).sum
theorem joinedL_le (xs:List Bs):(joinedL xs).length≤bulk xs:=Nat.le_trans (join_len_le _) (sum_filter_le _ _)
theorem bulk_len (xs:List Bs):xs.length≤bulk xs:=by
 unfold bulk
 induction xs with
 | nil=>simp
 | cons a r ih=>simp only [List.map_cons,List.sum_cons,List.length_cons]; omega
set_option maxRecDepth 100000 in
set_option maxHeartbeats 1600000 in
theorem joined_any (v:Value) (sp:List Bs) (w:World) (hv:Strs w v sp) (hs:bulk sp≤100000000) :
  Calls Tryz.prog 183 #[v] w fun e w'=>e=.returned (.string (bs (joinedL sp)))∧Kept w w':=by
 obtain ⟨i0,hi,hz0,hz1,hz2⟩:=info_parts Tryz.infoStr
 have HCL:Hid (joinedL sp=Lib.join (sp.filter nonE) [32]):=rfl
 have hlen:=joinedL_le sp
 have hsl:=bulk_len sp
 obtain ⟨a,c,rfl,hc,h3⟩:=hv
 have H3:=Lib.hid h3
 clear h3
 go_enter Tryz.func183,Tryz.ntmps183
 go_wp2_with fail
 simp only [mk_bs]
 go_loopw [3,8] (fun v i wr=>∃ (k:Nat),k≤sp.length∧i=.int .i64 k∧wr.ownsRow w.heap.size 9 1 v ((sp.take k).filter nonE).length (strCells ((sp.take k).filter nonE))∧Kept w wr) (fun _ i _=>sp.length - (intOf i).toNat)
 case atStart=>exact ⟨0,Nat.zero_le _,rfl,World.ownsRow_nil _ _ _ _,Kept.refl _⟩
 case round =>
  obtain ⟨k,hkl,rfl,hown,hkr⟩:=hrel
  by_cases hlt:k<sp.length
  ·obtain ⟨x,hx⟩:∃ x,sp[k]? = some x:=⟨_,List.getElem?_eq_getElem hlt⟩
   obtain ⟨g,o,rfl,hg,hcc⟩:=H3.out (by omega)
   have hcell:wr.cell? ⟨g,o+k,none⟩=some (.string (bs x)):=(hkr.cell (p:=⟨g,o+k,none⟩) hg).trans (hcc k x hx)
   have HF:=Lib.hid (filter_take sp k x hx)
   have hfl:=filter_le sp k
   generalize (sp.take k).filter nonE=ws at *
   have hsz:w.heap.size≤wr.heap.size:=hkr.size
   have HR:=Lib.hid hkr
   have HW:=Lib.hid hown
   clear hkr hx hown hcc
   by_cases he:x=[]
   ·subst he
    go_wp2_with fail
    go_roundw
    case rel=>exact ⟨k+1,by omega,by go_num,by rw [HF.out]; simpa [nonE] using HW.out,HR.out⟩
    case measure=>simp [intOf]; omega
   ·have hown:=HW.out
    have hee:x.isEmpty=false:=by simpa using he
    go_wp2_with (at_builtin; refine wpList_append_own _ rfl _ _ 29 rfl w.heap.size 9 i0 (.string ⟨#[]⟩) 1 16 Tryz.underlying29 hi hz0 hz1 hz2 rfl (by decide) _ _ _ rfl (hown.alloc _) ⟨wr.heap.size,0,none⟩ 1 1 [.string (bs x)] rfl rfl ?c1 ?c2 ?c3 ?c4 ?c5 ?_)
    case c1=>exact new_cells _ #[.string (bs x)] _ _ (by simp)
    case c2=>intro u hu; simp at hu; subst hu; rfl
    case c3=>unfold maxLen; omega
    case c4=>omega
    case c5=>simp; omega
    intro v' w2 hown2 hgrow _
    have HB2:=Lib.hid ((HR.out.trans (kept_alloc wr _)).trans' (grown_below (hown.alloc _) hgrow (by simp; omega)))
    rw [← strCells_snoc] at hown2
    have HO:=Lib.hid hown2
    clear hown2 hgrow hown
    go_wp2_with fail
    go_roundw
    case rel=>exact ⟨k+1,by omega,by go_num,by rw [HF.out]; simpa [nonE,hee] using HO.out,HB2.out⟩
    case measure=>simp [intOf]; omega
  ·have HW:=Lib.hid (Strs.own hown)
   have HR:=Lib.hid hkr
   rw [List.take_of_length_le (by omega)] at HW
   have hfl:(sp.filter nonE).length≤sp.length:=List.length_filter_le _ _
   clear hown hkr
   go_wp2_with fail
   refine (join_any _ _ _ _ HW.out (by omega) (by rw [← HCL.out]; omega)).mono ?_
   rintro e w2 ⟨rfl,hk2⟩
   go_wp2_with fail
   go_ret
   exact ⟨ret_bs HCL.out.symm,HR.out.trans hk2⟩

end Go.Proofs.YtmcoomlkbgiboaaGreatDoor

/- Full, Short of package person and of its reference. Conditions: lengths. -/
set_option linter.all false
namespace Go.Proofs.YtmcoomlkbgiboaaGreatDoor
open Go.RowKit

/-- A person's value. -/
abbrev persV (f g p s:Bs):Value:=.agg #[.string (bs f),.string (bs g),.string (bs p),.string (bs s)]
theorem strs_lit (w:World) (arr:Array Value) (xs:List Bs) (n:Nat) (hn:n=xs.length) (h:arr.toList=strCells xs) (e:TypeId) (g:Nat) (hg:g=w.heap.size):Strs (w.alloc (.cells arr e)) (.slice (some ⟨g,0,none⟩) n n) xs:=by
 subst hn hg
 refine ⟨_,_,rfl,Nat.le_refl _,fun _=>⟨w.heap.size,0,rfl,by simp,fun j x hx=>?_⟩⟩
 have:=new_cells w arr e w.heap.size rfl j (.string (bs x)) (by rw [h]; exact strCells_at xs j x hx)
 have e1:((⟨w.heap.size,0,none⟩:Addr).add j)=⟨w.heap.size,j,none⟩:=by unfold Addr.add; split <;> simp_all
 rw [e1] at this
 rw [Nat.zero_add]; exact this

set_option maxRecDepth 100000 in
set_option maxHeartbeats 800000 in
theorem full_any (f g p s:Bs) (w:World) (h:bulk [g,p,f,s]≤100000000) :
  Calls Tryz.prog 163 #[persV f g p s] w fun e w'=>e=.returned (.string (bs (joinedL [g,p,f,s])))∧Kept w w':=by
 go_enter Tryz.func163,Tryz.ntmps163
 go_wp2_with fail
 refine (joined_any _ [g,p,f,s] _ (strs_lit _ _ _ _ rfl rfl _ _ (by simp)) h).mono ?_
 rintro e w1 ⟨rfl,hk⟩
 go_wp2_with fail
 go_ret
 exact ⟨rfl,((kept_alloc _ _).trans (kept_alloc _ _)).trans hk⟩
set_option maxRecDepth 100000 in
set_option maxHeartbeats 800000 in
theorem short_any (f g p s:Bs) (w:World) (h:bulk [p,f]≤100000000) :
  Calls Tryz.prog 136 #[persV f g p s] w fun e w'=>e=.returned (.string (bs (joinedL [p,f])))∧Kept w w':=by
 go_enter Tryz.func136,Tryz.ntmps136
 go_wp2_with fail
 refine (joined_any _ [p,f] _ (strs_lit _ _ _ _ rfl rfl _ _ (by simp)) h).mono ?_
 rintro e w1 ⟨rfl,hk⟩
 go_wp2_with fail
 go_ret
 exact ⟨rfl,((kept_alloc _ _).trans (kept_alloc _ _)).trans hk⟩
end Go.Proofs.YtmcoomlkbgiboaaGreatDoor

/- line, barred, part of package person and of its reference. Conditions: lengths. -/
set_option linter.all false
namespace Go.Proofs.YtmcoomlkbgiboaaGreatDoor
open Go.RowKit

def setC:Bs:=[44,59,123,125]
def setN:Bs:=[59,123,125]
def partB (l:Bs):Bool:=lineB l && !(l.any (inSet setC)) && (l == cleanL l)
theorem contains10 (l:Bs) (w:World):Calls Tryz.prog 134 #[.string (bs l),.string (bs [10])] w fun e w'=>e=.returned (.bool (l.contains 10))∧w=w':=by
 refine (Tryz.strings_Contains_one (bs l) 10 w).mono ?_
 rintro e w' ⟨rfl,rfl⟩
 exact ⟨ret_bool (indexByte_contains 10 l),rfl⟩

set_option maxRecDepth 100000 in
set_option maxHeartbeats 800000 in
theorem line_any (l:Bs) (w:World) (hs:l.length≤1000000000) :
  Calls Tryz.prog 259 #[.string (bs l)] w fun e w'=>e=.returned (.bool (lineB l))∧∃ n,w'=w.drewN n:=by
 have HV:=Lib.hid (fun w=>valid_any (bs l) w hs)
 have HL:Hid (lineB l=(validB (bs l) && !(l.contains 10))):=rfl
 have HC:=Lib.hid (fun w=>contains10 l w)
 generalize validB (bs l)=v at *
 generalize l.contains 10=c at *
 cases v
 ·go_enter Tryz.func259,Tryz.ntmps259
  go_wp2_with fail
  refine (HV.out _).mono ?_
  rintro e w1 ⟨rfl,n,rfl⟩
  go_wp2_with fail
  go_ret
  exact ⟨ret_bool (by rw [HL.out]; rfl),n,rfl⟩
 ·go_enter Tryz.func259,Tryz.ntmps259
  go_wp2_with fail
  refine (HV.out _).mono ?_
  rintro e w1 ⟨rfl,n,rfl⟩
  go_wp2_with fail
  refine (HC.out _).mono ?_
  rintro e w1 ⟨rfl,rfl⟩
  cases c
  all_goals
   go_wp2_with fail
   go_ret
   exact ⟨ret_bool (by rw [HL.out]; rfl),n,rfl⟩

theorem asciiC:Ascii setC:=by intro b hb; unfold setC at hb; simp at hb; rcases hb with rfl | rfl | rfl | rfl <;> decide
set_option maxRecDepth 100000 in
set_option maxHeartbeats 800000 in
theorem part_any (l:Bs) (w:World) (hg:Gnd w) (hs:l.length≤100000000) :
  Calls Tryz.prog 218 #[.string (bs l)] w fun e w'=>e=.returned (.bool (partB l))∧Kept w w':=by
 have HV:=Lib.hid (fun w=>line_any l w (by omega))
 have HC:=Lib.hid (fun w=>cany_any l setC w asciiC (by decide) (by decide) (by omega))
 have HK:=Lib.hid (fun w hg=>clean_any l w hg hs)
 have HL:Hid (partB l=(lineB l && !(l.any (inSet setC)) && (l == cleanL l))):=rfl
 have HS:Hid (setC=[44,59,123,125]):=rfl
 generalize lineB l=v at *
 generalize l.any (inSet setC)=c at *
 generalize cleanL l=m at *
 cases v
 ·go_enter Tryz.func218,Tryz.ntmps218
  go_wp2_with fail
  refine (HV.out _).mono ?_
  rintro e w1 ⟨rfl,n,rfl⟩
  go_wp2_with fail
  go_ret
  exact ⟨ret_bool (by rw [HL.out]; rfl),kept_drewN _ _⟩
 ·go_enter Tryz.func218,Tryz.ntmps218
  go_wp2_with fail
  refine (HV.out _).mono ?_
  rintro e w1 ⟨rfl,n,rfl⟩
  have hg1:Gnd (w.drewN n):=hg
  go_wp2_with fail
  rw [← HS.out]
  refine (HC.out _).mono ?_
  rintro e w1 ⟨rfl,hk1⟩
  have hg2:=hg1.kept hk1
  have HK1:=Lib.hid ((kept_drewN w n).trans hk1)
  have HG2:=Lib.hid hg2
  clear hk1 hg2 hg1
  cases c
  ·go_wp2_with fail
   refine (HK.out _ HG2.out).mono ?_
   rintro e w2 ⟨rfl,hk2⟩
   have HK2:=Lib.hid (HK1.out.trans hk2)
   clear hk2
   go_wp2_with fail
   all_goals go_ret
   all_goals exact ⟨ret_bool (by rw [HL.out]; simp [*]),HK2.out⟩
  ·go_wp2_with fail
   go_ret
   exact ⟨ret_bool (by rw [HL.out]; rfl),HK1.out⟩

end Go.Proofs.YtmcoomlkbgiboaaGreatDoor

/- Text of package person and of its reference. Conditions: lengths. -/
set_option linter.all false
namespace Go.Proofs.YtmcoomlkbgiboaaGreatDoor
open Go.RowKit

/-- The text of a person. -/
def textS (f g p s:Bs):Bs :=
 (if p=[] then f else [123] ++ p ++ [125,32] ++ f) ++
 (if s=[] then (if g=[] then [] else [44,32] ++ g) else [44,32] ++ s ++ [44] ++ (if g=[] then [] else [32] ++ g))
/-- The error of a person's text. -/
def textE (f g p s:Bs):Int:=if f=[] then 8 else if partB f && partB g && partB p && partB s then 0 else 17
def textR (f g p s:Bs):Bs:=if textE f g p s=0 then textS f g p s else []

set_option maxRecDepth 100000 in
set_option maxHeartbeats 1600000 in
theorem text_bad0 (f g p s:Bs) (w:World) (hg:Gnd w) (hf:¬ f=[])  (hn:partB f=false) (hs:f.length+g.length+p.length+s.length≤10000000) :
  Calls Tryz.prog 171 #[persV f g p s] w fun e w'=>e=.returned (.tuple #[.string (bs []),.int .i64 17])∧Kept w w':=by
 have hfe:f.isEmpty=false:=by simpa using hf
 go_enter Tryz.func171,Tryz.ntmps171
 go_wp2_with fail
 refine (part_any f _ (hg.kept (kept_alloc _ _)) (by omega)).mono ?_
 rintro e w1 ⟨rfl,hk0⟩
 rw [hn]
 have HK0:=Lib.hid hk0
 obtain ⟨kc,kf⟩:=keep_cell HK0.out
 have hz:w.heap.size<w1.heap.size:=by have:=HK0.out.size; simp at this; omega
 have HK:=Lib.hid ((kept_alloc w _).trans HK0.out)
 have HG:=Lib.hid (hg.kept HK.out)
 clear hk0
 go_wp2_with fail
 go_ret2
 exact ⟨rfl,HK.out⟩

set_option maxRecDepth 100000 in
set_option maxHeartbeats 1600000 in
theorem text_bad1 (f g p s:Bs) (w:World) (hg:Gnd w) (hf:¬ f=[]) (y0:partB f=true) (hn:partB g=false) (hs:f.length+g.length+p.length+s.length≤10000000) :
  Calls Tryz.prog 171 #[persV f g p s] w fun e w'=>e=.returned (.tuple #[.string (bs []),.int .i64 17])∧Kept w w':=by
 have hfe:f.isEmpty=false:=by simpa using hf
 go_enter Tryz.func171,Tryz.ntmps171
 go_wp2_with fail
 refine (part_any f _ (hg.kept (kept_alloc _ _)) (by omega)).mono ?_
 rintro e w1 ⟨rfl,hk0⟩
 rw [y0]
 have HK0:=Lib.hid hk0
 obtain ⟨kc,kf⟩:=keep_cell HK0.out
 have hz:w.heap.size<w1.heap.size:=by have:=HK0.out.size; simp at this; omega
 have HK:=Lib.hid ((kept_alloc w _).trans HK0.out)
 have HG:=Lib.hid (hg.kept HK.out)
 clear hk0
 go_wp2_with fail
 refine (part_any g _ HG.out (by omega)).mono ?_
 rintro e w2 ⟨rfl,hk1⟩
 rw [hn]
 have HK1:=Lib.hid (HK0.out.trans hk1)
 clear kc kf hz HK HK0 HG
 obtain ⟨kc,kf⟩:=keep_cell HK1.out
 have hz:w.heap.size<w2.heap.size:=by have:=HK1.out.size; simp at this; omega
 have HK:=Lib.hid ((kept_alloc w _).trans HK1.out)
 have HG:=Lib.hid (hg.kept HK.out)
 clear hk1
 go_wp2_with fail
 go_ret2
 exact ⟨rfl,HK.out⟩

set_option maxRecDepth 100000 in
set_option maxHeartbeats 1600000 in
theorem text_bad2 (f g p s:Bs) (w:World) (hg:Gnd w) (hf:¬ f=[]) (y0:partB f=true) (y1:partB g=true) (hn:partB p=false) (hs:f.length+g.length+p.length+s.length≤10000000) :
  Calls Tryz.prog 171 #[persV f g p s] w fun e w'=>e=.returned (.tuple #[.string (bs []),.int .i64 17])∧Kept w w':=by
 have hfe:f.isEmpty=false:=by simpa using hf
 go_enter Tryz.func171,Tryz.ntmps171
 go_wp2_with fail
 refine (part_any f _ (hg.kept (kept_alloc _ _)) (by omega)).mono ?_
 rintro e w1 ⟨rfl,hk0⟩
 rw [y0]
 have HK0:=Lib.hid hk0
 obtain ⟨kc,kf⟩:=keep_cell HK0.out
 have hz:w.heap.size<w1.heap.size:=by have:=HK0.out.size; simp at this; omega
 have HK:=Lib.hid ((kept_alloc w _).trans HK0.out)
 have HG:=Lib.hid (hg.kept HK.out)
 clear hk0
 go_wp2_with fail
 refine (part_any g _ HG.out (by omega)).mono ?_
 rintro e w2 ⟨rfl,hk1⟩
 rw [y1]
 have HK1:=Lib.hid (HK0.out.trans hk1)
 clear kc kf hz HK HK0 HG
 obtain ⟨kc,kf⟩:=keep_cell HK1.out
 have hz:w.heap.size<w2.heap.size:=by have:=HK1.out.size; simp at this; omega
 have HK:=Lib.hid ((kept_alloc w _).trans HK1.out)
 have HG:=Lib.hid (hg.kept HK.out)
 clear hk1
 go_wp2_with fail
 refine (part_any p _ HG.out (by omega)).mono ?_
 rintro e w3 ⟨rfl,hk2⟩
 rw [hn]
 have HK2:=Lib.hid (HK1.out.trans hk2)
 clear kc kf hz HK HK1 HG
 obtain ⟨kc,kf⟩:=keep_cell HK2.out
 have hz:w.heap.size<w3.heap.size:=by have:=HK2.out.size; simp at this; omega
 have HK:=Lib.hid ((kept_alloc w _).trans HK2.out)
 have HG:=Lib.hid (hg.kept HK.out)
 clear hk2
 go_wp2_with fail
 go_ret2
 exact ⟨rfl,HK.out⟩

set_option maxRecDepth 100000 in
set_option maxHeartbeats 1600000 in
theorem text_bad3 (f g p s:Bs) (w:World) (hg:Gnd w) (hf:¬ f=[]) (y0:partB f=true) (y1:partB g=true) (y2:partB p=true) (hn:partB s=false) (hs:f.length+g.length+p.length+s.length≤10000000) :
  Calls Tryz.prog 171 #[persV f g p s] w fun e w'=>e=.returned (.tuple #[.string (bs []),.int .i64 17])∧Kept w w':=by
 have hfe:f.isEmpty=false:=by simpa using hf
 go_enter Tryz.func171,Tryz.ntmps171
 go_wp2_with fail
 refine (part_any f _ (hg.kept (kept_alloc _ _)) (by omega)).mono ?_
 rintro e w1 ⟨rfl,hk0⟩
 rw [y0]
 have HK0:=Lib.hid hk0
 obtain ⟨kc,kf⟩:=keep_cell HK0.out
 have hz:w.heap.size<w1.heap.size:=by have:=HK0.out.size; simp at this; omega
 have HK:=Lib.hid ((kept_alloc w _).trans HK0.out)
 have HG:=Lib.hid (hg.kept HK.out)
 clear hk0
 go_wp2_with fail
 refine (part_any g _ HG.out (by omega)).mono ?_
 rintro e w2 ⟨rfl,hk1⟩
 rw [y1]
 have HK1:=Lib.hid (HK0.out.trans hk1)
 clear kc kf hz HK HK0 HG
 obtain ⟨kc,kf⟩:=keep_cell HK1.out
 have hz:w.heap.size<w2.heap.size:=by have:=HK1.out.size; simp at this; omega
 have HK:=Lib.hid ((kept_alloc w _).trans HK1.out)
 have HG:=Lib.hid (hg.kept HK.out)
 clear hk1
 go_wp2_with fail
 refine (part_any p _ HG.out (by omega)).mono ?_
 rintro e w3 ⟨rfl,hk2⟩
 rw [y2]
 have HK2:=Lib.hid (HK1.out.trans hk2)
 clear kc kf hz HK HK1 HG
 obtain ⟨kc,kf⟩:=keep_cell HK2.out
 have hz:w.heap.size<w3.heap.size:=by have:=HK2.out.size; simp at this; omega
 have HK:=Lib.hid ((kept_alloc w _).trans HK2.out)
 have HG:=Lib.hid (hg.kept HK.out)
 clear hk2
 go_wp2_with fail
 refine (part_any s _ HG.out (by omega)).mono ?_
 rintro e w4 ⟨rfl,hk3⟩
 rw [hn]
 have HK3:=Lib.hid (HK2.out.trans hk3)
 clear kc kf hz HK HK2 HG
 obtain ⟨kc,kf⟩:=keep_cell HK3.out
 have hz:w.heap.size<w4.heap.size:=by have:=HK3.out.size; simp at this; omega
 have HK:=Lib.hid ((kept_alloc w _).trans HK3.out)
 have HG:=Lib.hid (hg.kept HK.out)
 clear hk3
 go_wp2_with fail
 go_ret2
 exact ⟨rfl,HK.out⟩

set_option maxRecDepth 100000 in
set_option maxHeartbeats 3200000 in
theorem text_ok (f g p s:Bs) (w:World) (hg:Gnd w) (hf:¬ f=[]) (y0:partB f=true) (y1:partB g=true) (y2:partB p=true) (y3:partB s=true) (hs:f.length+g.length+p.length+s.length≤10000000) :
  Calls Tryz.prog 171 #[persV f g p s] w fun e w'=>e=.returned (.tuple #[.string (bs (textS f g p s)),.int .i64 0])∧Kept w w':=by
 have hfe:f.isEmpty=false:=by simpa using hf
 go_enter Tryz.func171,Tryz.ntmps171
 go_wp2_with fail
 refine (part_any f _ (hg.kept (kept_alloc _ _)) (by omega)).mono ?_
 rintro e w1 ⟨rfl,hk0⟩
 rw [y0]
 have HK0:=Lib.hid hk0
 obtain ⟨kc,kf⟩:=keep_cell HK0.out
 have hz:w.heap.size<w1.heap.size:=by have:=HK0.out.size; simp at this; omega
 have HK:=Lib.hid ((kept_alloc w _).trans HK0.out)
 have HG:=Lib.hid (hg.kept HK.out)
 clear hk0
 go_wp2_with fail
 refine (part_any g _ HG.out (by omega)).mono ?_
 rintro e w2 ⟨rfl,hk1⟩
 rw [y1]
 have HK1:=Lib.hid (HK0.out.trans hk1)
 clear kc kf hz HK HK0 HG
 obtain ⟨kc,kf⟩:=keep_cell HK1.out
 have hz:w.heap.size<w2.heap.size:=by have:=HK1.out.size; simp at this; omega
 have HK:=Lib.hid ((kept_alloc w _).trans HK1.out)
 have HG:=Lib.hid (hg.kept HK.out)
 clear hk1
 go_wp2_with fail
 refine (part_any p _ HG.out (by omega)).mono ?_
 rintro e w3 ⟨rfl,hk2⟩
 rw [y2]
 have HK2:=Lib.hid (HK1.out.trans hk2)
 clear kc kf hz HK HK1 HG
 obtain ⟨kc,kf⟩:=keep_cell HK2.out
 have hz:w.heap.size<w3.heap.size:=by have:=HK2.out.size; simp at this; omega
 have HK:=Lib.hid ((kept_alloc w _).trans HK2.out)
 have HG:=Lib.hid (hg.kept HK.out)
 clear hk2
 go_wp2_with fail
 refine (part_any s _ HG.out (by omega)).mono ?_
 rintro e w4 ⟨rfl,hk3⟩
 rw [y3]
 have HK3:=Lib.hid (HK2.out.trans hk3)
 clear kc kf hz HK HK2 HG
 obtain ⟨kc,kf⟩:=keep_cell HK3.out
 have hz:w.heap.size<w4.heap.size:=by have:=HK3.out.size; simp at this; omega
 have HK:=Lib.hid ((kept_alloc w _).trans HK3.out)
 have HG:=Lib.hid (hg.kept HK.out)
 clear hk3
 by_cases hp:p=[] <;> by_cases hs':s=[] <;> by_cases hg':g=[]
 all_goals
  first | subst hp | (have hpe:p.isEmpty=false:=by simpa using hp)
  first | subst hs' | (have hse:s.isEmpty=false:=by simpa using hs')
  first | subst hg' | (have hge:g.isEmpty=false:=by simpa using hg')
  try simp only [List.length_nil,Nat.add_zero,Nat.zero_add] at hs
  go_wp2_with fail
  go_ret2
  refine ⟨?_,HK.out⟩
  refine congrArg (fun x=>Ending.returned (.tuple #[.string (bs x),.int .i64 0])) ?_
  simp [textS, *]

set_option maxRecDepth 100000 in
theorem text_any (f g p s:Bs) (w:World) (hg:Gnd w) (hs:f.length+g.length+p.length+s.length≤10000000) :
  Calls Tryz.prog 171 #[persV f g p s] w fun e w'=>e=.returned (.tuple #[.string (bs (textR f g p s)),.int .i64 (textE f g p s)])∧Kept w w':=by
 by_cases hf:f=[]
 ·have e1:textE f g p s=8:=by unfold textE; rw [if_pos hf]
  have e2:textR f g p s=[]:=by unfold textR; rw [e1]; rfl
  rw [e1,e2]
  clear e1 e2
  subst hf
  go_enter Tryz.func171,Tryz.ntmps171
  go_wp2_with fail
  go_ret2
  exact ⟨rfl,kept_alloc _ _⟩
 have hb:∀ q:Bool,(partB f && partB g && partB p && partB s)=q→textE f g p s=if q then 0 else 17:=by
  intro q h; unfold textE; rw [if_neg hf,h]
 have hr:textE f g p s=17→textR f g p s=[]:=by intro h; unfold textR; rw [h]; rfl
 cases h0:partB f
 ·have e:=hb false (by rw [h0]; rfl); rw [if_neg (by decide)] at e; rw [e,hr e]
  exact text_bad0 f g p s w hg hf h0 hs
 cases h1:partB g
 ·have e:=hb false (by rw [h0,h1]; rfl); rw [if_neg (by decide)] at e; rw [e,hr e]
  exact text_bad1 f g p s w hg hf h0 h1 hs
 cases h2:partB p
 ·have e:=hb false (by rw [h0,h1,h2]; rfl); rw [if_neg (by decide)] at e; rw [e,hr e]
  exact text_bad2 f g p s w hg hf h0 h1 h2 hs
 cases h3:partB s
 ·have e:=hb false (by rw [h0,h1,h2,h3]; rfl); rw [if_neg (by decide)] at e; rw [e,hr e]
  exact text_bad3 f g p s w hg hf h0 h1 h2 h3 hs
 ·have e:=hb true (by rw [h0,h1,h2,h3]; rfl); rw [if_pos rfl] at e
  have e2:textR f g p s=textS f g p s:=by unfold textR; rw [e]; rfl
  rw [e,e2]
  exact text_ok f g p s w hg hf h0 h1 h2 h3 hs

end Go.Proofs.YtmcoomlkbgiboaaGreatDoor
