/- slices.Clone at texts, pairs and parts of citations; attr.Get and attr.Has. Conditions: lengths. -/
import Derived.Test.YtmcoomlkbgiboaaGreatDoorK04
import Derived.Test.YtmcoomlkbgiboaaGreatDoorK07
import Derived.Test.YtmcoomlkbgiboaaGreatDoorK02
import Derived.Test.YtmcoomlkbgiboaaGreatDoorK01
import Derived.Test.YtmcoomlkbgiboaaGreatDoorK06
import Derived.Lib.SliceRun
import Derived.Deep.MidRow

set_option linter.all false
namespace Go.Proofs.YtmcoomlkbgiboaaGreatDoor
open Go.RowKit

theorem Tryz.infoCit:(Tryz.prog.info? 68).map (fun i=>(i.zero,i.size,i.bytes))=some (some (.agg #[.string ⟨#[]⟩,.string ⟨#[]⟩,.string ⟨#[]⟩,.bool false]),4,56):=by kernel_rfl
/-- A copy of n elements in a row of the call's own. -/
def ClnP (e:TypeId) (k:Nat) (n:Nat) (news:List Value) (w:World) (en:Ending) (w':World):Prop:=∃ v',en=.returned v'∧w'.ownsRow w.heap.size e k v' n news∧Kept w w'

set_option maxRecDepth 100000 in
set_option maxHeartbeats 1600000 in
theorem clnS_any (a:Option Addr) (n c:Nat) (news:List Value) (w:World) (hl:news.length=n * 1) (hn:n≤1100000) (hsrc:0<n→∃ g o,a=some ⟨g,o,none⟩∧∀ j u,news[j]? = some u→w.cell? ⟨g,o+j,none⟩=some u) (h1:∀ u∈news,u.oneCell'=true) (hg:∀ g o,a=some ⟨g,o,none⟩→0<n→g<w.heap.size) :
  Calls Tryz.prog 78 #[.slice a n c] w (ClnP 9 1 n news w):=by
 obtain ⟨i0,hi,hz0,hz1,hz2⟩:=info_parts Tryz.infoStr
 have qT:∀ (w:World) (a:Option Addr) (n c n' c':Nat),(binOp .eql 29 (.slice a n c) (.slice none n' c')).run Tryz.prog w=.ok (.bool a.isNone) w:=fun w a n c n' c'=>Lib.run_eql_slice_nil w _ _ a n c n' c' Tryz.underlying29
 unfold ClnP
 cases a with
 | none =>
  obtain rfl:n=0:=by
   rcases Nat.eq_zero_or_pos n with q | q
   ·exact q
   ·obtain ⟨g,o,e,_⟩:=hsrc q; cases e
  obtain rfl:news=[]:=List.length_eq_zero_iff.1 (by omega)
  clear hsrc h1 hg
  go_enter Tryz.func78,Tryz.ntmps78
  go_wp2_with fail
  go_ret
  exact ⟨_,rfl,World.ownsRow_nil _ _ _ _,Kept.refl _⟩
 | some ad =>
  have HNEWS:Hid (∀ j u,news[j]? = some u→(w.alloc (.cells #[] 9)).cell? (ad.add j)=some u):=fun j u hu=>by
   have hj:=(List.getElem?_eq_some_iff.1 hu).1
   have hq:0<n:=by
    rcases Nat.eq_zero_or_pos n with q | q
    ·rw [q] at hl; omega
    ·exact q
   obtain ⟨g,o,e,hc⟩:=hsrc hq
   cases e
   rw [addr_plus]
   exact ((kept_alloc w (.cells #[] 9)).cell (p:=⟨g,o+j,none⟩) (hg g o rfl hq)).trans (hc j u hu)
  have HONE:=Lib.hid h1
  clear hsrc h1 hg
  go_enter Tryz.func78,Tryz.ntmps78
  go_wp2_with (at_builtin; refine wpList_append_own _ rfl _ _ 29 rfl w.heap.size 9 i0 (.string ⟨#[]⟩) 1 16 Tryz.underlying29 hi hz0 hz1 hz2 rfl (by decide) _ 0 [] rfl (World.ownsRow_made w #[] 0 (Nat.le_refl _) (by unfold maxLen; omega) (by simp)) ad n c news rfl hl HNEWS.out HONE.out ?_ ?_ ?_ ?_)
  ·unfold maxLen; omega
  ·omega
  ·simp
  intro v' w2 hown2 hgrow _
  have HR:=Lib.hid hown2
  have HK:=Lib.hid ((kept_alloc w (.cells #[] 9)).trans' (grown_below (World.ownsRow_made (size:=1) w #[] 0 (Nat.le_refl _) (by unfold maxLen; omega) (by simp)) hgrow (by simp)))
  clear hown2 hgrow
  go_wp2_with fail
  go_ret
  exact ⟨_,rfl,by simpa using HR.out,HK.out⟩

set_option maxRecDepth 100000 in
set_option maxHeartbeats 1600000 in
theorem clnF_any (a:Option Addr) (n c:Nat) (news:List Value) (w:World) (hl:news.length=n * 2) (hn:n≤1100000) (hsrc:0<n→∃ g o,a=some ⟨g,o,none⟩∧∀ j u,news[j]? = some u→w.cell? ⟨g,o+j,none⟩=some u) (h1:∀ u∈news,u.oneCell'=true) (hg:∀ g o,a=some ⟨g,o,none⟩→0<n→g<w.heap.size) :
  Calls Tryz.prog 72 #[.slice a n c] w (ClnP 62 2 n news w):=by
 obtain ⟨i0,hi,hz0,hz1,hz2⟩:=info_parts Tryz.infoPair
 have qT:∀ (w:World) (a:Option Addr) (n c n' c':Nat),(binOp .eql 22 (.slice a n c) (.slice none n' c')).run Tryz.prog w=.ok (.bool a.isNone) w:=fun w a n c n' c'=>Lib.run_eql_slice_nil w _ _ a n c n' c' Tryz.underlying22
 unfold ClnP
 cases a with
 | none =>
  obtain rfl:n=0:=by
   rcases Nat.eq_zero_or_pos n with q | q
   ·exact q
   ·obtain ⟨g,o,e,_⟩:=hsrc q; cases e
  obtain rfl:news=[]:=List.length_eq_zero_iff.1 (by omega)
  clear hsrc h1 hg
  go_enter Tryz.func72,Tryz.ntmps72
  go_wp2_with fail
  go_ret
  exact ⟨_,rfl,World.ownsRow_nil _ _ _ _,Kept.refl _⟩
 | some ad =>
  have HNEWS:Hid (∀ j u,news[j]? = some u→(w.alloc (.cells #[] 62)).cell? (ad.add j)=some u):=fun j u hu=>by
   have hj:=(List.getElem?_eq_some_iff.1 hu).1
   have hq:0<n:=by
    rcases Nat.eq_zero_or_pos n with q | q
    ·rw [q] at hl; omega
    ·exact q
   obtain ⟨g,o,e,hc⟩:=hsrc hq
   cases e
   rw [addr_plus]
   exact ((kept_alloc w (.cells #[] 62)).cell (p:=⟨g,o+j,none⟩) (hg g o rfl hq)).trans (hc j u hu)
  have HONE:=Lib.hid h1
  clear hsrc h1 hg
  go_enter Tryz.func72,Tryz.ntmps72
  go_wp2_with (at_builtin; refine wpList_append_own _ rfl _ _ 22 rfl w.heap.size 62 i0 (.agg #[.string ⟨#[]⟩,.string ⟨#[]⟩]) 2 32 Tryz.underlying22 hi hz0 hz1 hz2 rfl (by decide) _ 0 [] rfl (World.ownsRow_made w #[] 0 (Nat.le_refl _) (by unfold maxLen; omega) (by simp)) ad n c news rfl hl HNEWS.out HONE.out ?_ ?_ ?_ ?_)
  ·unfold maxLen; omega
  ·omega
  ·simp
  intro v' w2 hown2 hgrow _
  have HR:=Lib.hid hown2
  have HK:=Lib.hid ((kept_alloc w (.cells #[] 62)).trans' (grown_below (World.ownsRow_made (size:=2) w #[] 0 (Nat.le_refl _) (by unfold maxLen; omega) (by simp)) hgrow (by simp)))
  clear hown2 hgrow
  go_wp2_with fail
  go_ret
  exact ⟨_,rfl,by simpa using HR.out,HK.out⟩

set_option maxRecDepth 100000 in
set_option maxHeartbeats 1600000 in
theorem clnT_any (a:Option Addr) (n c:Nat) (news:List Value) (w:World) (hl:news.length=n * 4) (hn:n≤1100000) (hsrc:0<n→∃ g o,a=some ⟨g,o,none⟩∧∀ j u,news[j]? = some u→w.cell? ⟨g,o+j,none⟩=some u) (h1:∀ u∈news,u.oneCell'=true) (hg:∀ g o,a=some ⟨g,o,none⟩→0<n→g<w.heap.size) :
  Calls Tryz.prog 79 #[.slice a n c] w (ClnP 68 4 n news w):=by
 obtain ⟨i0,hi,hz0,hz1,hz2⟩:=info_parts Tryz.infoCit
 have qT:∀ (w:World) (a:Option Addr) (n c n' c':Nat),(binOp .eql 69 (.slice a n c) (.slice none n' c')).run Tryz.prog w=.ok (.bool a.isNone) w:=fun w a n c n' c'=>Lib.run_eql_slice_nil w _ _ a n c n' c' Tryz.underlying69
 unfold ClnP
 cases a with
 | none =>
  obtain rfl:n=0:=by
   rcases Nat.eq_zero_or_pos n with q | q
   ·exact q
   ·obtain ⟨g,o,e,_⟩:=hsrc q; cases e
  obtain rfl:news=[]:=List.length_eq_zero_iff.1 (by omega)
  clear hsrc h1 hg
  go_enter Tryz.func79,Tryz.ntmps79
  go_wp2_with fail
  go_ret
  exact ⟨_,rfl,World.ownsRow_nil _ _ _ _,Kept.refl _⟩
 | some ad =>
  have HNEWS:Hid (∀ j u,news[j]? = some u→(w.alloc (.cells #[] 68)).cell? (ad.add j)=some u):=fun j u hu=>by
   have hj:=(List.getElem?_eq_some_iff.1 hu).1
   have hq:0<n:=by
    rcases Nat.eq_zero_or_pos n with q | q
    ·rw [q] at hl; omega
    ·exact q
   obtain ⟨g,o,e,hc⟩:=hsrc hq
   cases e
   rw [addr_plus]
   exact ((kept_alloc w (.cells #[] 68)).cell (p:=⟨g,o+j,none⟩) (hg g o rfl hq)).trans (hc j u hu)
  have HONE:=Lib.hid h1
  clear hsrc h1 hg
  go_enter Tryz.func79,Tryz.ntmps79
  go_wp2_with (at_builtin; refine wpList_append_own _ rfl _ _ 69 rfl w.heap.size 68 i0 (.agg #[.string ⟨#[]⟩,.string ⟨#[]⟩,.string ⟨#[]⟩,.bool false]) 4 56 Tryz.underlying69 hi hz0 hz1 hz2 rfl (by decide) _ 0 [] rfl (World.ownsRow_made w #[] 0 (Nat.le_refl _) (by unfold maxLen; omega) (by simp)) ad n c news rfl hl HNEWS.out HONE.out ?_ ?_ ?_ ?_)
  ·unfold maxLen; omega
  ·omega
  ·simp
  intro v' w2 hown2 hgrow _
  have HR:=Lib.hid hown2
  have HK:=Lib.hid ((kept_alloc w (.cells #[] 68)).trans' (grown_below (World.ownsRow_made (size:=4) w #[] 0 (Nat.le_refl _) (by unfold maxLen; omega) (by simp)) hgrow (by simp)))
  clear hown2 hgrow
  go_wp2_with fail
  go_ret
  exact ⟨_,rfl,by simpa using HR.out,HK.out⟩

/-- A copy of texts. -/
def ClnS (xs:List Bs) (w:World) (en:Ending) (w':World):Prop:=∃ v',en=.returned v'∧Strs w' v' xs∧InB (fun g=>w.heap.size≤g) v' xs.length∧Kept w w'
theorem clnS (v:Value) (xs:List Bs) (w:World) (hv:Strs w v xs) (hn:xs.length≤1100000):Calls Tryz.prog 78 #[v] w (ClnS xs w):=by
 obtain ⟨a,c,rfl,hc,h3⟩:=hv
 refine (clnS_any a xs.length c (strCells xs) w (by rw [strCells_length,Nat.mul_one]) hn (fun q=>?_) (strCells_one xs) (fun g o e q=>?_)).mono ?_
 ·obtain ⟨g,o,e,_,hcell⟩:=h3 q
  refine ⟨g,o,e,fun j u hu=>?_⟩
  obtain ⟨x,hx,rfl⟩:=strCells_back xs j u hu
  exact hcell j x hx
 ·obtain ⟨g',o',e',hg,_⟩:=h3 q
  rw [e] at e'; cases e'; exact hg
 ·rintro e w' ⟨v',rfl,ho,hk⟩
  exact ⟨v',rfl,Strs.own ho,fun _ g hg=>(ho.lt g hg).1,hk⟩
def ClnF (xs:List Pr) (w:World) (en:Ending) (w':World):Prop:=∃ v',en=.returned v'∧Prs w' v' xs∧InB (fun g=>w.heap.size≤g) v' xs.length∧Kept w w'
theorem clnF (v:Value) (xs:List Pr) (w:World) (hv:Prs w v xs) (hn:xs.length≤1100000):Calls Tryz.prog 72 #[v] w (ClnF xs w):=by
 obtain ⟨a,c,rfl,hc,h3⟩:=hv
 refine (clnF_any a xs.length c (pairC xs) w (pairC_len xs) hn (fun q=>?_) (pairC_one xs) (fun g o e q=>?_)).mono ?_
 ·obtain ⟨g,o,e,_,hcell⟩:=h3 q
  exact ⟨g,o,e,fun j u hu=>pairC_read w g xs o hcell j u hu⟩
 ·obtain ⟨g',o',e',hg,_⟩:=h3 q
  rw [e] at e'; cases e'; exact hg
 ·rintro e w' ⟨v',rfl,ho,hk⟩
  exact ⟨v',rfl,Prs.own ho,fun _ g hg=>(ho.lt g hg).1,hk⟩
def ClnT (xs:List Cit) (w:World) (en:Ending) (w':World):Prop:=∃ v',en=.returned v'∧Cits (fun g=>w.heap.size≤g) w' v' xs∧Kept w w'
theorem citW_one {cs:List Value} {x:Cit} (h:CitW cs x):∀ u∈cs,u.oneCell'=true:=by
 intro u hu
 unfold CitW at h
 rw [h] at hu
 simp only [List.mem_cons,List.not_mem_nil,or_false] at hu
 rcases hu with rfl | rfl | rfl | rfl <;> rfl
theorem clnT {S:Nat→Prop} (v:Value) (xs:List Cit) (w:World) (hv:Cits S w v xs) (hn:xs.length≤1100000):Calls Tryz.prog 79 #[v] w (ClnT xs w):=by
 obtain ⟨a,c,rfl,hc⟩:=hv.form
 obtain ⟨css,e1,e2,e3,e4⟩:=RowR.css (by decide) hv
 refine (clnT_any a xs.length c css.flatten w (by rw [flat_len css e2,e1]) hn (fun q=>?_) ?_ (fun g o e q=>?_)).mono ?_
 ·obtain ⟨g,o,e,_,_,hcell⟩:=e4 q
  exact ⟨g,o,e,hcell⟩
 ·intro u hu
  obtain ⟨cs,hcs,hu⟩:=List.mem_flatten.1 hu
  obtain ⟨j,hj,rfl⟩:=List.getElem_of_mem hcs
  exact citW_one (e3 j _ _ (List.getElem?_eq_getElem hj) (List.getElem?_eq_getElem (by omega))) u hu
 ·obtain ⟨g',o',e',hg,_⟩:=e4 q
  rw [e] at e'; cases e'; exact hg
 ·rintro e w' ⟨v',rfl,ho,hk⟩
  exact ⟨v',rfl,RowR.own css e2 e1 ho e3 (fun g _ hb=>hb),hk⟩

/-- Attributes as a value. -/
abbrev atV (id:Bs) (vC vP:Value):Value:=.agg #[.string (bs id),vC,vP]
end Go.Proofs.YtmcoomlkbgiboaaGreatDoor

/- Whole structs, and parts of structs, into and out of blocks that are known whole. No condition. -/
set_option linter.all false
namespace Go.Proofs.YtmcoomlkbgiboaaGreatDoor
open Go.RowKit

theorem blk_cells {R:Nat} {ty:TypeId}:∀ (vs:List Value) (o:Nat) (w:World) (cs:Array Value),Blk w R ty cs→∃ cs':Array Value,Blk (w.setCells R o vs) R ty cs'∧cs'.size=cs.size∧∀ j,j<cs.size→cs'[j]? = if o≤j∧j<o+vs.length then vs[j - o]? else cs[j]?
 | [],o,w,cs,h=>⟨cs,h,rfl,fun j hj=>by rw [if_neg (by simp only [List.length_nil]; omega)]⟩
 | v :: vs,o,w,cs,h=>by
  obtain ⟨cs',h1,h2,h3⟩:=blk_cells vs (o+1) _ _ (h.set o v)
  refine ⟨cs',h1,by rw [h2]; simp,fun j hj=>?_⟩
  have:=h3 j (by simpa using hj)
  rw [this]
  by_cases q:j=o
  ·subst q
   rw [if_neg (by omega),if_pos ⟨Nat.le_refl _,by simp only [List.length_cons]; omega⟩]
   simp [hj]
  ·by_cases q2:o≤j∧j<o+(v :: vs).length
   ·rw [if_pos q2,if_pos (by simp only [List.length_cons] at q2; omega),show j - o=(j - (o+1))+1 by omega,List.getElem?_cons_succ]
   ·rw [if_neg q2,if_neg (by simp only [List.length_cons] at q2; omega),Array.getElem?_setIfInBounds_ne (fun e=>q e.symm)]
theorem blk_whole {w:World} {R:Nat} {ty:TypeId} {old cells:Array Value} (h:Blk w R ty old) (hs:old.size=cells.size):Blk (w.setCells R 0 cells.toList) R ty cells:=by
 obtain ⟨cs',h1,h2,h3⟩:=blk_cells cells.toList 0 w old h
 have e:cs'=cells:=by
  apply Array.ext_getElem?
  intro j
  by_cases hj:j<old.size
  ·rw [h3 j hj,if_pos ⟨Nat.zero_le _,by rw [Nat.zero_add,Array.length_toList]; omega⟩,Nat.sub_zero,Array.getElem?_toList]
  ·rw [Array.getElem?_eq_none (by omega),Array.getElem?_eq_none (by omega)]
 rwa [e] at h1
theorem only_cells {R:Nat}:∀ (vs:List Value) (o:Nat) (w:World),Only (fun i=>i=R) w (w.setCells R o vs)
 | [],_,w=>Only.of_kept (Kept.refl w)
 | v :: vs,o,w=>(Only.setCell R o v).trans ((only_cells vs (o+1) _).mono (fun _ _ q=>q))
/-- A whole struct goes into a block that is known whole. -/
theorem wpList_store_blk {P:Program} {ops:Array Oper} {rest:List Oper} {op:Oper} {a:Act} {w:World} {Q:Exit→Act→World→Prop} (hgd:op.guard=none) (ty:TypeId) (x y:Operand) (ho:op.op=.store ty x y)
  (R:Nat) (old cells:Array Value) (hx:a.eval x=.pointer (some ⟨R,0,none⟩)) (hy:a.eval y=.agg cells) (hb:Blk w R ty old) (hs:old.size=cells.size)
  (hi:(P.info? ty).map (·.size)=some cells.size) (h1:cells.all (·.oneCell')=true)
  (h:∀ w',Blk w' R ty cells→Only (fun i=>i=R) w w'→wpList P ops Q rest (a.put op.dst undef) w'):wpList P ops Q (op :: rest) a w:=by
 refine wpList_store_mid hgd ty x y ho R 0 cells hx hy (fun j hj=>⟨?_,?_⟩) hi h1 (h _ (blk_whole hb hs) (only_cells _ _ _))
 ·rw [Nat.zero_add,hb.cell j (old[j]'(by omega)) (by rw [Array.getElem?_eq_getElem])]; rfl
 ·rw [Nat.zero_add]; exact hb.free j
/-- A whole struct comes out of a block that is known whole. -/
theorem wpList_load_blk {P:Program} {ops:Array Oper} {rest:List Oper} {op:Oper} {a:Act} {w:World} {Q:Exit→Act→World→Prop} (hgd:op.guard=none) (ty:TypeId) (x:Operand) (ho:op.op=.load ty x)
  (R:Nat) (cells:Array Value) (hx:a.eval x=.pointer (some ⟨R,0,none⟩)) (hb:Blk w R ty cells) (d:TypeDesc) (hu:P.underlying ty=some d) (hd:d.isRow=true)
  (hi:(P.info? ty).map (·.size)=some cells.size)
  (h:wpList P ops Q rest (a.put op.dst (.agg cells)) w):wpList P ops Q (op :: rest) a w:=by
 refine wpList_load_mid hgd ty x ho R 0 hx cells.toList d (fun j v hv=>?_) hu hd (by rw [hi,Array.length_toList]) (by rw [Array.toArray_toList]; exact h)
 rw [Nat.zero_add]
 exact hb.cell j v (by rw [← Array.getElem?_toList]; exact hv)
/-- The cells of a block with some of them put anew from a place on. -/
def putC (old:Array Value) (o:Nat) (vs:List Value):Array Value:=(old.toList.take o ++ (vs ++ old.toList.drop (o+vs.length))).toArray
theorem blk_part {w:World} {R:Nat} {ty:TypeId} {old:Array Value} (h:Blk w R ty old) (o:Nat) (vs:List Value) (hs:o+vs.length≤old.size):Blk (w.setCells R o vs) R ty (putC old o vs):=by
 obtain ⟨cs',h1,h2,h3⟩:=blk_cells vs o w old h
 have e:cs'=putC old o vs:=by
  apply Array.ext_getElem?
  intro j
  unfold putC
  conv=>rhs; rw [List.getElem?_toArray]
  have hl:old.toList.length=old.size:=Array.length_toList
  have hm:(old.toList.take o).length=o:=by rw [List.length_take]; omega
  by_cases hj:j<old.size
  ·rw [h3 j hj]
   by_cases q:o≤j∧j<o+vs.length
   ·rw [if_pos q,List.getElem?_append_right (by omega),hm,List.getElem?_append_left (by omega)]
   ·rw [if_neg q]
    by_cases q2:j<o
    ·rw [List.getElem?_append_left (by omega),List.getElem?_take_of_lt q2,Array.getElem?_toList]
    ·rw [List.getElem?_append_right (by omega),hm,List.getElem?_append_right (by omega),List.getElem?_drop,show o+vs.length+(j - o - vs.length)=j by omega,Array.getElem?_toList]
  ·rw [Array.getElem?_eq_none (by omega),List.getElem?_eq_none (by rw [List.length_append,List.length_append,List.length_drop]; omega)]
 rwa [e] at h1
/-- A struct goes into a part of a block that is known whole. -/
theorem wpList_store_part {P:Program} {ops:Array Oper} {rest:List Oper} {op:Oper} {a:Act} {w:World} {Q:Exit→Act→World→Prop} (hgd:op.guard=none) (ty:TypeId) (x y:Operand) (ho:op.op=.store ty x y)
  (R o:Nat) (te:TypeId) (old cells:Array Value) (hx:a.eval x=.pointer (some ⟨R,o,none⟩)) (hy:a.eval y=.agg cells) (hb:Blk w R te old) (hs:o+cells.size≤old.size)
  (hi:(P.info? ty).map (·.size)=some cells.size) (h1:cells.all (·.oneCell')=true)
  (h:∀ w',Blk w' R te (putC old o cells.toList)→Only (fun i=>i=R) w w'→wpList P ops Q rest (a.put op.dst undef) w'):wpList P ops Q (op :: rest) a w:=by
 refine wpList_store_mid hgd ty x y ho R o cells hx hy (fun j hj=>⟨?_,?_⟩) hi h1 (h _ (blk_part hb o cells.toList (by rw [Array.length_toList]; exact hs)) (only_cells _ _ _))
 ·rw [hb.cell (o+j) (old[o+j]'(by omega)) (by rw [Array.getElem?_eq_getElem])]; rfl
 ·exact hb.free (o+j)
end Go.Proofs.YtmcoomlkbgiboaaGreatDoor

/- The small functions of gloss: copies of attributes, kinds and names of blocks and inlines. Conditions: lengths. -/
set_option linter.all false
namespace Go.Proofs.YtmcoomlkbgiboaaGreatDoor
open Go.RowKit

theorem Tryz.sizeAt:(Tryz.prog.info? 56).map (fun x=>x.size)=some 3:=by kernel_rfl
theorem Strs.shape {w:World} {v:Value} {xs:List Bs} (h:Strs w v xs):∃ a c,v=.slice a xs.length c∧xs.length≤c:=by obtain ⟨a,c,e,l,_⟩:=h; exact ⟨a,c,e,l⟩
theorem Prs.shape {w:World} {v:Value} {xs:List Pr} (h:Prs w v xs):∃ a c,v=.slice a xs.length c∧xs.length≤c:=by obtain ⟨a,c,e,l,_⟩:=h; exact ⟨a,c,e,l⟩
/-- A copy of attributes. -/
def CatP (id:Bs) (cls:List Bs) (prs:List Pr) (w:World) (en:Ending) (w':World):Prop:=∃ vC vP,en=.returned (atV id vC vP)∧(Strs w' vC cls∧InB (fun g=>w.heap.size≤g) vC cls.length)∧(Prs w' vP prs∧InB (fun g=>w.heap.size≤g) vP prs.length)∧Kept w w'
set_option maxRecDepth 100000 in
set_option maxHeartbeats 1600000 in
theorem tcat_any (id:Bs) (vC vP:Value) (cls:List Bs) (prs:List Pr) (w:World) (hC:Strs w vC cls) (hP:Prs w vP prs) (hc:cls.length≤1100000) (hp:prs.length≤1100000) :
  Calls Tryz.prog 77 #[atV id vC vP] w (CatP id cls prs w):=by
 have HC:=Lib.hid hC
 have HP:=Lib.hid hP
 obtain ⟨aC,cC,rfl,lC⟩:=hC.shape
 obtain ⟨aP,cP,rfl,lP⟩:=hP.shape
 have HCC:=Lib.hid (fun v w h=>clnS v cls w h hc)
 have HCP:=Lib.hid (fun v w h=>clnF v prs w h hp)
 unfold ClnS at HCC
 unfold ClnF at HCP
 clear hC hP
 have e1:(w.alloc (.cells #[.string (bs id),.slice aC cls.length cC,.slice aP prs.length cP] 56)).heap.size=w.heap.size+1:=by simp
 have HB0:=Lib.hid ((Blk.new w 56 #[.string (bs id),.slice aC cls.length cC,.slice aP prs.length cP]).alloc (.cells #[.string (bs []),.slice none 0 0,.slice none 0 0] 56))
 have HR0:=Blk.new (w.alloc (.cells #[.string (bs id),.slice aC cls.length cC,.slice aP prs.length cP] 56)) 56 #[.string (bs []),.slice none 0 0,.slice none 0 0]
 rw [e1] at HR0
 have HR:=Lib.hid HR0
 have HK0:=Lib.hid ((kept_alloc w (.cells #[.string (bs id),.slice aC cls.length cC,.slice aP prs.length cP] 56)).trans (kept_alloc _ (.cells #[.string (bs []),.slice none 0 0,.slice none 0 0] 56)))
 clear HR0 e1
 obtain ⟨B,HBB⟩:∃ B,Hid (w.heap.size=B):=⟨_,rfl⟩
 have hBz:w.heap.size≤B:=by rw [HBB.out]; exact Nat.le_refl _
 have hBz1:w.heap.size≤B+1:=by omega
 go_enter Tryz.func77,Tryz.ntmps77
 go_wp2_with fail
 generalize World.alloc (World.alloc _ _) _=w0 at *
 rw [HBB.out] at HB0 HR ⊢
 clear HBB
 have hBw0:B<w0.heap.size:=HB0.out.lt
 have hRw0:B+1<w0.heap.size:=HR.out.lt
 refine (HCC.out _ _ (HC.out.kept HK0.out)).mono ?_
 rintro e w1 ⟨v1,rfl,hs1,hi1,hk1⟩
 obtain ⟨a1,c1,rfl,l1⟩:=hs1.shape
 have HS1:=Lib.hid hs1
 have HI1:=Lib.hid hi1
 have HB1:=Lib.hid (HB0.out.kept hk1)
 have HR1:=Lib.hid (HR.out.kept hk1)
 have HK1:=Lib.hid (HK0.out.trans hk1)
 have hz2:w0.heap.size≤(w1.setCell ⟨B,1,none⟩ (.slice a1 cls.length c1)).heap.size:=by rw [size_setCell]; exact hk1.size
 clear hs1 hi1 hk1 HB0 HR HK0 HCC HC
 have b1:w1.cell? ⟨B,1,none⟩=some (.slice aC cls.length cC):=HB1.out.cell 1 _ rfl
 have b2:w1.cell? ⟨B,2,none⟩=some (.slice aP prs.length cP):=HB1.out.cell 2 _ rfl
 have f1:=HB1.out.free 1
 have bz:=HB1.out.lt
 have HB2:Hid (Blk (w1.setCell ⟨B,1,none⟩ (.slice a1 cls.length c1)) B 56 #[.string (bs id),.slice a1 cls.length c1,.slice aP prs.length cP]):=HB1.out.set 1 _
 have HR2:=Lib.hid (HR1.out.other B 1 (.slice a1 cls.length c1) (by omega))
 have HK2:=Lib.hid (kept_set HK1.out B 1 (.slice a1 cls.length c1) hBz)
 have HS2:=Lib.hid (HS1.out.onlS HI1.out (Only.setCell B 1 (.slice a1 cls.length c1)) (fun g _ hs q=>by omega))
 clear HB1 HR1 HK1 HS1
 go_wp2_with fail
 generalize World.setCell _ _ _=w2 at *
 clear b1 b2 f1 bz
 refine (HCP.out _ _ (HP.out.kept HK2.out)).mono ?_
 rintro e w3 ⟨v2,rfl,hs3,hi3,hk3⟩
 obtain ⟨a3,c3,rfl,l3⟩:=hs3.shape
 have HP3:=Lib.hid hs3
 have HI3:=Lib.hid hi3
 have HB3:=Lib.hid (HB2.out.kept hk3)
 have HR3:=Lib.hid (HR2.out.kept hk3)
 have HK3:=Lib.hid (HK2.out.trans hk3)
 have HS3:=Lib.hid (HS2.out.kept hk3)
 clear hs3 hi3 hk3 HB2 HR2 HK2 HS2 HCP HP
 have b0:w3.cell? ⟨B,0,none⟩=some (.string (bs id)):=HB3.out.cell 0 _ rfl
 have b1:w3.cell? ⟨B,1,none⟩=some (.slice a1 cls.length c1):=HB3.out.cell 1 _ rfl
 have b2:w3.cell? ⟨B,2,none⟩=some (.slice aP prs.length cP):=HB3.out.cell 2 _ rfl
 have f2:=HB3.out.free 2
 have bz:=HB3.out.lt
 have HB4:Hid (Blk (w3.setCell ⟨B,2,none⟩ (.slice a3 prs.length c3)) B 56 #[.string (bs id),.slice a1 cls.length c1,.slice a3 prs.length c3]):=HB3.out.set 2 _
 have HR4:=Lib.hid (HR3.out.other B 2 (.slice a3 prs.length c3) (by omega))
 have HK4:=Lib.hid (kept_set HK3.out B 2 (.slice a3 prs.length c3) hBz)
 have HS4:=Lib.hid (HS3.out.onlS HI1.out (Only.setCell B 2 (.slice a3 prs.length c3)) (fun g _ hs q=>by omega))
 have HP4:=Lib.hid (HP3.out.onlS HI3.out (Only.setCell B 2 (.slice a3 prs.length c3)) (fun g _ hs q=>by omega))
 clear HB3 HR3 HK3 HS3 HP3
 go_wp2_with (first
  | (refine wpList_load_blk (by rfl) 56 (.tmp 1) (by rfl) B _ (by rfl) HB4.out _ Tryz.underlying56 rfl Tryz.sizeAt ?_)
  | (refine wpList_store_blk rfl 56 (.tmp 2) (.tmp 11) (by rfl) (B+1) _ #[.string (bs id),.slice a1 cls.length c1,.slice a3 prs.length c3] (by rfl) (by rfl) HR4.out rfl Tryz.sizeAt (by simp only [List.all_toArray,List.all_cons,List.all_nil]; rfl) ?_; intro w9 hb9 ho9; have r0:w9.cell? ⟨B+1,0,none⟩=some (.string (bs id)):=hb9.cell 0 _ rfl; have r1:w9.cell? ⟨B+1,1,none⟩=some (.slice a1 cls.length c1):=hb9.cell 1 _ rfl; have r2:w9.cell? ⟨B+1,2,none⟩=some (.slice a3 prs.length c3):=hb9.cell 2 _ rfl; have rz:=hb9.lt; have HK9:=Lib.hid (HK4.out.trans' (ho9.below HK4.out.size (fun i e=>by rw [e]; exact hBz1))); have HS9:=Lib.hid (HS4.out.onlS HI1.out ho9 (fun g _ hs q=>by omega)); have HP9:=Lib.hid (HP4.out.onlS HI3.out ho9 (fun g _ hs q=>by omega)); clear hb9 ho9))
 have HFIN:CatP id cls prs w (.returned (atV id (.slice a1 cls.length c1) (.slice a3 prs.length c3))) w9:=⟨_,_,rfl,⟨HS9.out,HI1.out.mono fun g _ _ q=>by omega⟩,⟨HP9.out,HI3.out.mono fun g _ _ q=>by omega⟩,HK9.out⟩
 refine bodyPost_ret (v:=atV id (.slice a1 cls.length c1) (.slice a3 prs.length c3)) ?_ rfl HFIN
 simp [results,Tryz.results77,go_sem,r0,r1,r2,rz]
end Go.Proofs.YtmcoomlkbgiboaaGreatDoor

/- A range over a text beside a row of the call's own. No condition. -/
set_option linter.all false
namespace Go.Proofs.YtmcoomlkbgiboaaGreatDoor
open Go.RowKit

theorem own_iter_ne {w:World} {base:Nat} {e:TypeId} {size:Nat} {v:Value} {n:Nat} {xs:List Value} {k p:Nat} {s:ByteArray} (h:w.ownsRow base e size v n xs) (hit:w.heap[k]? = some (.stringIter s p)):some k≠v.ownBlock:=by
 rcases h.2 with ⟨rfl,_⟩ | ⟨g,cap,cur,rfl,_,hh,_⟩
 ·simp [Value.ownBlock]
 ·intro q
  have:k=g:=by simpa [Value.ownBlock] using q
  subst this
  rw [hit] at hh
  cases hh
theorem only_iterAt (w:World) (k:Nat) (s:ByteArray) (p:Nat):Only (fun i=>i=k) w (w.iterAt k s p) :=
 ⟨rfl,rfl,rfl,by simp [World.iterAt],fun i _ hs=>by simp [World.iterAt,Array.getElem?_setIfInBounds,Ne.symm hs]⟩
theorem own_iterAtC {w:World} {base:Nat} {e:TypeId} {size:Nat} {v:Value} {n:Nat} {xs:List Value} {k p:Nat} {s:ByteArray} (h:w.ownsRow base e size v n xs) (hit:w.heap[k]? = some (.stringIter s p)) (s':ByteArray) (p':Nat):(w.iterAt k s' p').ownsRow base e size v n xs :=
 (only_iterAt w k s' p').own h (fun g hg e=>own_iter_ne h hit (by rw [hg,e]))
end Go.Proofs.YtmcoomlkbgiboaaGreatDoor
