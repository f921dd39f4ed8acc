/- slices.Clone at texts, pairs and parts of citations; attr.Get and attr.Has. Conditions: lengths. -/
import Derived.Test.YtmcoomlkbgiboaaGreatDoorV23
import Derived.Test.YtmcoomlkbgiboaaGreatDoorV26
import Derived.Test.YtmcoomlkbgiboaaGreatDoorV15
import Derived.Test.YtmcoomlkbgiboaaGreatDoorV22
import Derived.Test.YtmcoomlkbgiboaaGreatDoorV24
import Derived.Lib.SliceRun
import Derived.Sort.WalkA
import Derived.BigQuiet
import Derived.Deep.RegionWith
import Derived.Deep.MidRow
set_option linter.all false
set_option maxRecDepth 100000
set_option maxHeartbeats 6400000
namespace Go.Proofs.YtmcoomlkbgiboaaGreatDoor
open Go.RowKit
theorem Tryz.infoCit:(Tryz.prog.info? 68).map (fun i=>(i.zero,i.size,i.bytes))=some (some (.agg #[.string ⟨#[]⟩,.string ⟨#[]⟩,.string ⟨#[]⟩,.bool false]),4,56):=by kernel_rfl
def ClnP (e:TypeId) (k:Nat) (n:Nat) (news:List Value) (w:World) (en:Ending) (w':World):Prop:=∃ v',en=.returned v'/\w'.ownsRow w.heap.size e k v' n news/\Kept w w'
theorem zCh (a:Option Addr) (n c:Nat) (news:List Value) (w:World) (hl:news.length=n * 1) (hn:n<=1100000) (hsrc:0<n->∃ g o,a=some ⟨g,o,none⟩/\∀ j u,news[j]? = some u->w.cell? ⟨g,o+j,none⟩=some u) (h1:∀ u∈news,u.oneCell'=true) (hg:∀ g o,a=some ⟨g,o,none⟩->0<n->g<w.heap.size) :
  Calls Tryz.prog 78 #[.slice a n c] w (ClnP 9 1 n news w):=by
 obtain ⟨i0,hi,hz0,hz1,hz2⟩:=info_parts Tryz.infoStr;have qT:∀ (w:World) (a:Option Addr) (n c n' c':Nat),(binOp .eql 29 (.slice a n c) (.slice none n' c')).run Tryz.prog w=.ok (.bool a.isNone) w:=fun w a n c n' c'=>Lib.run_eql_slice_nil w _ _ a n c n' c' Tryz.underlying29;unfold ClnP;cases a with
 | none =>
  obtain rfl:n=0:=by
   rcases Nat.eq_zero_or_pos n with q|q
   ·exact q
   ·obtain ⟨g,o,e,_⟩:=hsrc q;cases e
  obtain rfl:news=[]:=List.length_eq_zero_iff.1 (by omega);clear hsrc h1 hg;go_enter Tryz.func78,Tryz.ntmps78;go_wp2_with fail;go_ret;exact ⟨_,rfl,World.ownsRow_nil _ _ _ _,Kept.refl _⟩
 | some ad =>
  have HNEWS:Hid (∀ j u,news[j]? = some u->(w.alloc (.cells #[] 9)).cell? (ad.add j)=some u):=fun j u hu=>by
   have hj:=(List.getElem?_eq_some_iff.1 hu).1;have hq:0<n:=by
    rcases Nat.eq_zero_or_pos n with q|q
    ·rw[q] at hl;omega
    ·exact q
   obtain ⟨g,o,e,hc⟩:=hsrc hq;cases e;rw[zeH];exact ((zaA w (.cells #[] 9)).cell (p:=⟨g,o+j,none⟩) (hg g o rfl hq)).trans (hc j u hu)
  have HONE:=Hd h1;clear hsrc h1 hg;go_enter Tryz.func78,Tryz.ntmps78;go_wp2_with (at_builtin;refine wpList_append_own _ rfl _ _ 29 rfl w.heap.size 9 i0 (.string ⟨#[]⟩) 1 16 Tryz.underlying29 hi hz0 hz1 hz2 rfl (by decide) _ 0 [] rfl (World.ownsRow_made w #[] 0 (Nat.le_refl _) (by unfold maxLen;omega) (by simp)) ad n c news rfl hl HNEWS.out HONE.out ?_ ?_ ?_ ?_)
  ·unfold maxLen;omega
  ·omega
  ·simp
  intro v' w2 hown2 hgrow _;have HR:=Hd hown2;have HK:=Hd ((zaA w (.cells #[] 9)).trans' (zaI (World.ownsRow_made (size:=1) w #[] 0 (Nat.le_refl _) (by unfold maxLen;omega) (by simp)) hgrow (by simp)));clear hown2 hgrow;go_wp2_with fail;go_ret;exact ⟨_,rfl,by simpa using HR.out,HK.out⟩
theorem zCi (a:Option Addr) (n c:Nat) (news:List Value) (w:World) (hl:news.length=n * 2) (hn:n<=1100000) (hsrc:0<n->∃ g o,a=some ⟨g,o,none⟩/\∀ j u,news[j]? = some u->w.cell? ⟨g,o+j,none⟩=some u) (h1:∀ u∈news,u.oneCell'=true) (hg:∀ g o,a=some ⟨g,o,none⟩->0<n->g<w.heap.size) :
  Calls Tryz.prog 72 #[.slice a n c] w (ClnP 62 2 n news w):=by
 obtain ⟨i0,hi,hz0,hz1,hz2⟩:=info_parts Tryz.infoPair;have qT:∀ (w:World) (a:Option Addr) (n c n' c':Nat),(binOp .eql 22 (.slice a n c) (.slice none n' c')).run Tryz.prog w=.ok (.bool a.isNone) w:=fun w a n c n' c'=>Lib.run_eql_slice_nil w _ _ a n c n' c' Tryz.underlying22;unfold ClnP;cases a with
 | none =>
  obtain rfl:n=0:=by
   rcases Nat.eq_zero_or_pos n with q|q
   ·exact q
   ·obtain ⟨g,o,e,_⟩:=hsrc q;cases e
  obtain rfl:news=[]:=List.length_eq_zero_iff.1 (by omega);clear hsrc h1 hg;go_enter Tryz.func72,Tryz.ntmps72;go_wp2_with fail;go_ret;exact ⟨_,rfl,World.ownsRow_nil _ _ _ _,Kept.refl _⟩
 | some ad =>
  have HNEWS:Hid (∀ j u,news[j]? = some u->(w.alloc (.cells #[] 62)).cell? (ad.add j)=some u):=fun j u hu=>by
   have hj:=(List.getElem?_eq_some_iff.1 hu).1;have hq:0<n:=by
    rcases Nat.eq_zero_or_pos n with q|q
    ·rw[q] at hl;omega
    ·exact q
   obtain ⟨g,o,e,hc⟩:=hsrc hq;cases e;rw[zeH];exact ((zaA w (.cells #[] 62)).cell (p:=⟨g,o+j,none⟩) (hg g o rfl hq)).trans (hc j u hu)
  have HONE:=Hd h1;clear hsrc h1 hg;go_enter Tryz.func72,Tryz.ntmps72;go_wp2_with (at_builtin;refine wpList_append_own _ rfl _ _ 22 rfl w.heap.size 62 i0 (.agg #[.string ⟨#[]⟩,.string ⟨#[]⟩]) 2 32 Tryz.underlying22 hi hz0 hz1 hz2 rfl (by decide) _ 0 [] rfl (World.ownsRow_made w #[] 0 (Nat.le_refl _) (by unfold maxLen;omega) (by simp)) ad n c news rfl hl HNEWS.out HONE.out ?_ ?_ ?_ ?_)
  ·unfold maxLen;omega
  ·omega
  ·simp
  intro v' w2 hown2 hgrow _;have HR:=Hd hown2;have HK:=Hd ((zaA w (.cells #[] 62)).trans' (zaI (World.ownsRow_made (size:=2) w #[] 0 (Nat.le_refl _) (by unfold maxLen;omega) (by simp)) hgrow (by simp)));clear hown2 hgrow;go_wp2_with fail;go_ret;exact ⟨_,rfl,by simpa using HR.out,HK.out⟩
theorem zCj (a:Option Addr) (n c:Nat) (news:List Value) (w:World) (hl:news.length=n * 4) (hn:n<=1100000) (hsrc:0<n->∃ g o,a=some ⟨g,o,none⟩/\∀ j u,news[j]? = some u->w.cell? ⟨g,o+j,none⟩=some u) (h1:∀ u∈news,u.oneCell'=true) (hg:∀ g o,a=some ⟨g,o,none⟩->0<n->g<w.heap.size) :
  Calls Tryz.prog 79 #[.slice a n c] w (ClnP 68 4 n news w):=by
 obtain ⟨i0,hi,hz0,hz1,hz2⟩:=info_parts Tryz.infoCit;have qT:∀ (w:World) (a:Option Addr) (n c n' c':Nat),(binOp .eql 69 (.slice a n c) (.slice none n' c')).run Tryz.prog w=.ok (.bool a.isNone) w:=fun w a n c n' c'=>Lib.run_eql_slice_nil w _ _ a n c n' c' Tryz.underlying69;unfold ClnP;cases a with
 | none =>
  obtain rfl:n=0:=by
   rcases Nat.eq_zero_or_pos n with q|q
   ·exact q
   ·obtain ⟨g,o,e,_⟩:=hsrc q;cases e
  obtain rfl:news=[]:=List.length_eq_zero_iff.1 (by omega);clear hsrc h1 hg;go_enter Tryz.func79,Tryz.ntmps79;go_wp2_with fail;go_ret;exact ⟨_,rfl,World.ownsRow_nil _ _ _ _,Kept.refl _⟩
 | some ad =>
  have HNEWS:Hid (∀ j u,news[j]? = some u->(w.alloc (.cells #[] 68)).cell? (ad.add j)=some u):=fun j u hu=>by
   have hj:=(List.getElem?_eq_some_iff.1 hu).1;have hq:0<n:=by
    rcases Nat.eq_zero_or_pos n with q|q
    ·rw[q] at hl;omega
    ·exact q
   obtain ⟨g,o,e,hc⟩:=hsrc hq;cases e;rw[zeH];exact ((zaA w (.cells #[] 68)).cell (p:=⟨g,o+j,none⟩) (hg g o rfl hq)).trans (hc j u hu)
  have HONE:=Hd h1;clear hsrc h1 hg;go_enter Tryz.func79,Tryz.ntmps79;go_wp2_with (at_builtin;refine wpList_append_own _ rfl _ _ 69 rfl w.heap.size 68 i0 (.agg #[.string ⟨#[]⟩,.string ⟨#[]⟩,.string ⟨#[]⟩,.bool false]) 4 56 Tryz.underlying69 hi hz0 hz1 hz2 rfl (by decide) _ 0 [] rfl (World.ownsRow_made w #[] 0 (Nat.le_refl _) (by unfold maxLen;omega) (by simp)) ad n c news rfl hl HNEWS.out HONE.out ?_ ?_ ?_ ?_)
  ·unfold maxLen;omega
  ·omega
  ·simp
  intro v' w2 hown2 hgrow _;have HR:=Hd hown2;have HK:=Hd ((zaA w (.cells #[] 68)).trans' (zaI (World.ownsRow_made (size:=4) w #[] 0 (Nat.le_refl _) (by unfold maxLen;omega) (by simp)) hgrow (by simp)));clear hown2 hgrow;go_wp2_with fail;go_ret;exact ⟨_,rfl,by simpa using HR.out,HK.out⟩
def ClnS (xs:List Bs) (w:World) (en:Ending) (w':World):Prop:=∃ v',en=.returned v'/\Strs w' v' xs/\InB (fun g=>w.heap.size<=g) v' xs.length/\Kept w w'
theorem zFB (v:Value) (xs:List Bs) (w:World) (hv:Strs w v xs) (hn:xs.length<=1100000):Calls Tryz.prog 78 #[v] w (ClnS xs w):=by
 obtain ⟨a,c,rfl,hc,h3⟩:=hv;refine (zCh a xs.length c (zaF xs) w (by rw[zf9,Nat.mul_one]) hn (fun q=>?_) (zkA xs) (fun g o e q=>?_)).mono ?_
 ·obtain ⟨g,o,e,_,hcell⟩:=h3 q;refine ⟨g,o,e,fun j u hu=>?_⟩;obtain ⟨x,hx,rfl⟩:=ziF xs j u hu;exact hcell j x hx
 ·obtain ⟨g',o',e',hg,_⟩:=h3 q;rw[e] at e';cases e';exact hg
 ·rintro e w' ⟨v',rfl,ho,hk⟩;exact ⟨v',rfl,Strs.own ho,fun _ g hg=>(ho.lt g hg).1,hk⟩
def ClnF (xs:List Pr) (w:World) (en:Ending) (w':World):Prop:=∃ v',en=.returned v'/\Prs w' v' xs/\InB (fun g=>w.heap.size<=g) v' xs.length/\Kept w w'
theorem zFR (v:Value) (xs:List Pr) (w:World) (hv:Prs w v xs) (hn:xs.length<=1100000):Calls Tryz.prog 72 #[v] w (ClnF xs w):=by
 obtain ⟨a,c,rfl,hc,h3⟩:=hv;refine (zCi a xs.length c (zbZ xs) w (zlQ xs) hn (fun q=>?_) (zlR xs) (fun g o e q=>?_)).mono ?_
 ·obtain ⟨g,o,e,_,hcell⟩:=h3 q;exact ⟨g,o,e,fun j u hu=>zjB w g xs o hcell j u hu⟩
 ·obtain ⟨g',o',e',hg,_⟩:=h3 q;rw[e] at e';cases e';exact hg
 ·rintro e w' ⟨v',rfl,ho,hk⟩;exact ⟨v',rfl,Prs.own ho,fun _ g hg=>(ho.lt g hg).1,hk⟩
def ClnT (xs:List Cit) (w:World) (en:Ending) (w':World):Prop:=∃ v',en=.returned v'/\Cits (fun g=>w.heap.size<=g) w' v' xs/\Kept w w'
theorem zCk {cs:List Value} {x:Cit} (h:CitW cs x):∀ u∈cs,u.oneCell'=true:=by
 intro u hu;unfold CitW at h;rw[h] at hu;simp only[List.mem_cons,List.not_mem_nil,or_false] at hu;rcases hu with rfl|rfl|rfl|rfl <;> rfl
theorem zF2 {S:Nat->Prop} (v:Value) (xs:List Cit) (w:World) (hv:Cits S w v xs) (hn:xs.length<=1100000):Calls Tryz.prog 79 #[v] w (ClnT xs w):=by
 obtain ⟨a,c,rfl,hc⟩:=hv.form;obtain ⟨css,e1,e2,e3,e4⟩:=RowR.css (by decide) hv;refine (zCj a xs.length c css.flatten w (by rw[zpB css e2,e1]) hn (fun q=>?_) ?_ (fun g o e q=>?_)).mono ?_
 ·obtain ⟨g,o,e,_,_,hcell⟩:=e4 q;exact ⟨g,o,e,hcell⟩
 ·intro u hu;obtain ⟨cs,hcs,hu⟩:=List.mem_flatten.1 hu;obtain ⟨j,hj,rfl⟩:=List.getElem_of_mem hcs;exact zCk (e3 j _ _ (List.getElem?_eq_getElem hj) (List.getElem?_eq_getElem (by omega))) u hu
 ·obtain ⟨g',o',e',hg,_⟩:=e4 q;rw[e] at e';cases e';exact hg
 ·rintro e w' ⟨v',rfl,ho,hk⟩;exact ⟨v',rfl,RowR.own css e2 e1 ho e3 (fun g _ hb=>hb),hk⟩
abbrev atV (id:Bs) (vC vP:Value):Value:=.agg #[.string (bs id),vC,vP]
theorem Tryz.sizeAt:(Tryz.prog.info? 56).map (fun x=>x.size)=some 3:=by kernel_rfl
theorem Strs.shape {w:World} {v:Value} {xs:List Bs} (h:Strs w v xs):∃ a c,v=.slice a xs.length c/\xs.length<=c:=by obtain ⟨a,c,e,l,_⟩:=h;exact ⟨a,c,e,l⟩
theorem Prs.shape {w:World} {v:Value} {xs:List Pr} (h:Prs w v xs):∃ a c,v=.slice a xs.length c/\xs.length<=c:=by obtain ⟨a,c,e,l,_⟩:=h;exact ⟨a,c,e,l⟩
def CatP (id:Bs) (cls:List Bs) (prs:List Pr) (w:World) (en:Ending) (w':World):Prop:=∃ vC vP,en=.returned (atV id vC vP)/\(Strs w' vC cls/\InB (fun g=>w.heap.size<=g) vC cls.length)/\(Prs w' vP prs/\InB (fun g=>w.heap.size<=g) vP prs.length)/\Kept w w'
theorem zu2 (id:Bs) (vC vP:Value) (cls:List Bs) (prs:List Pr) (w:World) (hC:Strs w vC cls) (hP:Prs w vP prs) (hc:cls.length<=1100000) (hp:prs.length<=1100000) :
  Calls Tryz.prog 77 #[atV id vC vP] w (CatP id cls prs w):=by
 have HC:=Hd hC;have HP:=Hd hP;obtain ⟨aC,cC,rfl,lC⟩:=hC.shape;obtain ⟨aP,cP,rfl,lP⟩:=hP.shape;have HCC:=Hd (fun v w h=>zFB v cls w h hc);have HCP:=Hd (fun v w h=>zFR v prs w h hp);unfold ClnS at HCC;unfold ClnF at HCP;clear hC hP;have e1:(w.alloc (.cells #[.string (bs id),.slice aC cls.length cC,.slice aP prs.length cP] 56)).heap.size=w.heap.size+1:=(by simp);have HB0:=Hd ((Blk.new w 56 #[.string (bs id),.slice aC cls.length cC,.slice aP prs.length cP]).alloc (.cells #[.string (bs []),.slice none 0 0,.slice none 0 0] 56));have HR0:=Blk.new (w.alloc (.cells #[.string (bs id),.slice aC cls.length cC,.slice aP prs.length cP] 56)) 56 #[.string (bs []),.slice none 0 0,.slice none 0 0];rw[e1] at HR0;have HR:=Hd HR0;have HK0:=Hd ((zaA w (.cells #[.string (bs id),.slice aC cls.length cC,.slice aP prs.length cP] 56)).trans (zaA _ (.cells #[.string (bs []),.slice none 0 0,.slice none 0 0] 56)));clear HR0 e1;obtain ⟨B,HBB⟩:∃ B,Hid (w.heap.size=B):=⟨_,rfl⟩;have hBz:w.heap.size<=B:=(by rw[HBB.out];exact Nat.le_refl _);have hBz1:w.heap.size<=B+1:=(by omega);go_enter Tryz.func77,Tryz.ntmps77;go_wp2_with fail;generalize World.alloc (World.alloc _ _) _=w0 at *;rw[HBB.out] at HB0 HR ⊢;clear HBB;have hBw0:B<w0.heap.size:=HB0.out.lt;have hRw0:B+1<w0.heap.size:=HR.out.lt;refine (HCC.out _ _ (HC.out.kept HK0.out)).mono ?_;rintro e w1 ⟨v1,rfl,hs1,hi1,hk1⟩;obtain ⟨a1,c1,rfl,l1⟩:=hs1.shape;have HS1:=Hd hs1;have HI1:=Hd hi1;have HB1:=Hd (HB0.out.kept hk1);have HR1:=Hd (HR.out.kept hk1);have HK1:=Hd (HK0.out.trans hk1);have hz2:w0.heap.size<=(w1.setCell ⟨B,1,none⟩ (.slice a1 cls.length c1)).heap.size:=(by rw[zcG];exact hk1.size);clear hs1 hi1 hk1 HB0 HR HK0 HCC HC;have b1:w1.cell? ⟨B,1,none⟩=some (.slice aC cls.length cC):=HB1.out.cell 1 _ rfl;have b2:w1.cell? ⟨B,2,none⟩=some (.slice aP prs.length cP):=HB1.out.cell 2 _ rfl;have f1:=HB1.out.free 1;have bz:=HB1.out.lt;have HB2:Hid (Blk (w1.setCell ⟨B,1,none⟩ (.slice a1 cls.length c1)) B 56 #[.string (bs id),.slice a1 cls.length c1,.slice aP prs.length cP]):=HB1.out.set 1 _;have HR2:=Hd (HR1.out.other B 1 (.slice a1 cls.length c1) (by omega));have HK2:=Hd (zb2 HK1.out B 1 (.slice a1 cls.length c1) hBz);have HS2:=Hd (HS1.out.onlS HI1.out (Only.setCell B 1 (.slice a1 cls.length c1)) (fun g _ hs q=>by omega));clear HB1 HR1 HK1 HS1;go_wp2_with fail;generalize World.setCell _ _ _=w2 at *;clear b1 b2 f1 bz;refine (HCP.out _ _ (HP.out.kept HK2.out)).mono ?_;rintro e w3 ⟨v2,rfl,hs3,hi3,hk3⟩;obtain ⟨a3,c3,rfl,l3⟩:=hs3.shape;have HP3:=Hd hs3;have HI3:=Hd hi3;have HB3:=Hd (HB2.out.kept hk3);have HR3:=Hd (HR2.out.kept hk3);have HK3:=Hd (HK2.out.trans hk3);have HS3:=Hd (HS2.out.kept hk3);clear hs3 hi3 hk3 HB2 HR2 HK2 HS2 HCP HP;have b0:w3.cell? ⟨B,0,none⟩=some (.string (bs id)):=HB3.out.cell 0 _ rfl;have b1:w3.cell? ⟨B,1,none⟩=some (.slice a1 cls.length c1):=HB3.out.cell 1 _ rfl;have b2:w3.cell? ⟨B,2,none⟩=some (.slice aP prs.length cP):=HB3.out.cell 2 _ rfl;have f2:=HB3.out.free 2;have bz:=HB3.out.lt;have HB4:Hid (Blk (w3.setCell ⟨B,2,none⟩ (.slice a3 prs.length c3)) B 56 #[.string (bs id),.slice a1 cls.length c1,.slice a3 prs.length c3]):=HB3.out.set 2 _;have HR4:=Hd (HR3.out.other B 2 (.slice a3 prs.length c3) (by omega));have HK4:=Hd (zb2 HK3.out B 2 (.slice a3 prs.length c3) hBz);have HS4:=Hd (HS3.out.onlS HI1.out (Only.setCell B 2 (.slice a3 prs.length c3)) (fun g _ hs q=>by omega));have HP4:=Hd (HP3.out.onlS HI3.out (Only.setCell B 2 (.slice a3 prs.length c3)) (fun g _ hs q=>by omega));clear HB3 HR3 HK3 HS3 HP3;go_wp2_with (first
  | (refine zaT (by rfl) 56 (.tmp 1) (by rfl) B _ (by rfl) HB4.out _ Tryz.underlying56 rfl Tryz.sizeAt ?_)
  | (refine za4 rfl 56 (.tmp 2) (.tmp 11) (by rfl) (B+1) _ #[.string (bs id),.slice a1 cls.length c1,.slice a3 prs.length c3] (by rfl) (by rfl) HR4.out rfl Tryz.sizeAt (by simp only[List.all_toArray,List.all_cons,List.all_nil];rfl) ?_;intro w9 hb9 ho9;have r0:w9.cell? ⟨B+1,0,none⟩=some (.string (bs id)):=hb9.cell 0 _ rfl;have r1:w9.cell? ⟨B+1,1,none⟩=some (.slice a1 cls.length c1):=hb9.cell 1 _ rfl;have r2:w9.cell? ⟨B+1,2,none⟩=some (.slice a3 prs.length c3):=hb9.cell 2 _ rfl;have rz:=hb9.lt;have HK9:=Hd (HK4.out.trans' (ho9.below HK4.out.size (fun i e=>by rw[e];exact hBz1)));have HS9:=Hd (HS4.out.onlS HI1.out ho9 (fun g _ hs q=>by omega));have HP9:=Hd (HP4.out.onlS HI3.out ho9 (fun g _ hs q=>by omega));clear hb9 ho9))
 have HFIN:CatP id cls prs w (.returned (atV id (.slice a1 cls.length c1) (.slice a3 prs.length c3))) w9:=⟨_,_,rfl,⟨HS9.out,HI1.out.mono fun g _ _ q=>by omega⟩,⟨HP9.out,HI3.out.mono fun g _ _ q=>by omega⟩,HK9.out⟩;refine bodyPost_ret (v:=atV id (.slice a1 cls.length c1) (.slice a3 prs.length c3)) ?_ rfl HFIN;simp [results,Tryz.results77,go_sem,r0,r1,r2,rz]
end Go.Proofs.YtmcoomlkbgiboaaGreatDoor
namespace Go.Proofs.YtmcoomlkbgiboaaGreatDoor
open Go.RowKit Go.Sort
instance inhSorT:Inhabited SorT:=⟨⟨⟨[],0,[],[]⟩,⟨[],[],[],[],[]⟩⟩⟩
theorem zfF {d:Array SorT} {i:Nat} (h:i<d.size):d.toList[i]? = some d[i]! := by
 rw[Array.getElem?_toList,Array.getElem?_eq_getElem h,getElem!_pos d i h]
theorem zrN (d:Array SorT) (i j:Nat) (hi:i<d.size) (hj:j<d.size):(swp d i j).toList=(d.toList.set i d[j]!).set j d[i]! := by
 unfold swp;rw[Array.toList_setIfInBounds,Array.toList_setIfInBounds]
theorem zCl {d:Array SorT} {i j:Nat} (hi:i<d.size) (hj:j<d.size) {p:SorT->Prop} (h:∀ x∈d.toList,p x):∀ x∈(swp d i j).toList,p x:=by
 intro x hx;rw[zrN d i j hi hj] at hx;have at_:∀ i,i<d.size->p d[i]! := fun i q=>h _ (List.mem_of_getElem? (zfF q));rcases List.mem_or_eq_of_mem_set hx with hx|rfl
 ·rcases List.mem_or_eq_of_mem_set hx with hx|rfl
  ·exact h x hx
  ·exact at_ j hj
 ·exact at_ i hi
def SrtS (g cap base:Nat) (A:Nat->Prop) (d':Array SorT) (w:World) (e:Ending) (w':World):Prop:=e=.returned (.tuple #[])/\OutG SorK 9 A base 86 w' (.slice (some ⟨g,0,none⟩) d'.size cap) d'.toList/\Only (fun i=>i=g) w w'
theorem zwK (C C2 base:Nat) (A:Nat->Prop) (cf:SorT->SorT->Int) (good:SorT->Prop) (g cap a b:Nat) (d:Array SorT) (w:World)
  (hO:OutG SorK 9 A base 86 w (.slice (some ⟨g,0,none⟩) d.size cap) d.toList) (hg:∀ x∈d.toList,good x) (hab:a<=b) (hb:b<=d.size) (hsz:d.size<=1000000)
  (hcmp:∀ (w':World) (cs ds:List Value) (x y:SorT),Only (fun i=>i=g) w w'->good x->good y->SorK (fun i=>A i/\g≠i) w' cs x->SorK (fun i=>A i/\g≠i) w' ds y ->
   Calls Tryz.prog 41 #[.agg cs.toArray,.agg ds.toArray,.pointer (some ⟨C,0,none⟩),.pointer (some ⟨C2,0,none⟩)] w' fun e w''=>e=.returned (.int .i64 (cf x y))/\Kept w' w'') :
  Calls Tryz.prog 142 #[.slice (some ⟨g,0,none⟩) d.size cap,.int .i64 a,.int .i64 b,.func (.func 41) #[] #[.pointer (some ⟨C,0,none⟩),.pointer (some ⟨C2,0,none⟩)]] w
   (SrtS g cap base A (insertionSort (ltS cf) d a b) w):=by
 have HFIN:Hid (∀ (w':World) (dk:Array SorT),OutG SorK 9 A base 86 w' (.slice (some ⟨g,0,none⟩) d.size cap) dk.toList->dk.size=d.size->Only (fun i=>i=g) w w'->insOuter (ltS cf) a b b dk=insOuter (ltS cf) a b (a+1) d->SrtS g cap base A (insertionSort (ltS cf) d a b) w (.returned (.tuple #[])) w'):=by
  intro w' dk h1 h2 h3 h4;have h5:insertionSort (ltS cf) d a b=dk:=(by unfold insertionSort;rw[<- h4,insOuter_stop _ _ _ _ _ (Nat.lt_irrefl b)]);rw[h5];exact ⟨rfl,by rw[h2];exact h1,h3⟩
 generalize hP:SrtS g cap base A (insertionSort (ltS cf) d a b) w=P at *;have HC:=Hd hcmp;have HO:=Hd hO;have HG:=Hd hg;clear hcmp hO hg hP;go_enter Tryz.func142,Tryz.ntmps142;go_wp2_with fail;go_loopw [8] (fun vi wr=>∃ (i:Nat) (dk:Array SorT),vi=.int .i64 i/\a<i/\(i<=b\/i=a+1)/\dk.size=d.size/\Hid (OutG SorK 9 A base 86 wr (.slice (some ⟨g,0,none⟩) d.size cap) dk.toList)/\Hid (Only (fun i=>i=g) w wr)/\Hid (∀ x∈dk.toList,good x)/\Hid (insOuter (ltS cf) a b i dk=insOuter (ltS cf) a b (a+1) d)) (fun vi _=>b+1 - (intOf vi).toNat)
 case atStart=>exact ⟨a+1,d,by go_num,by omega,.inr rfl,rfl,HO.out,Only.of_kept (Kept.refl w),HG.out,rfl⟩
 case round =>
  obtain ⟨i,dk,rfl,hai,hib,hsk,HOR,HKR,HGR,HIR⟩:=hrel;by_cases hlt:i<b
  ·have hltz:(i:Int)<(b:Int):=(by omega);go_wp2_with fail;obtain ⟨wo,hwo⟩:∃ wo:World,wo=wr:=⟨_,rfl⟩;rw[<- hwo] at HOR HKR;rw[<- hwo];go_loopw [9] (fun vj wr=>∃ (j:Nat) (dj:Array SorT),vj=.int .i64 j/\a<=j/\j<=i/\dj.size=d.size/\Hid (OutG SorK 9 A base 86 wr (.slice (some ⟨g,0,none⟩) d.size cap) dj.toList)/\Hid (Only (fun i=>i=g) w wr)/\Hid (∀ x∈dj.toList,good x)/\Hid (insInner (ltS cf) a j dj=insInner (ltS cf) a i dk)) (fun vj _=>(intOf vj).toNat)
   case atStart=>exact ⟨i,dk,rfl,by omega,Nat.le_refl _,hsk,HOR.out,HKR.out,HGR.out,rfl⟩
   case round =>
    clear HOR HKR HGR hwo;obtain ⟨j,dj,rfl,haj,hji,hsj,HOJ,HKJ,HGJ,HIJ⟩:=hrel;have OUT:Hid ((j<=a\/ltS cf dj[j]! dj[j - 1]! = false)->insOuter (ltS cf) a b (i+1) dj=insOuter (ltS cf) a b (a+1) d):=fun hs=>by
     rw[<- HIR.out,insOuter_go _ _ _ _ _ hlt,<- HIJ.out,insInner_stop _ _ _ _ hs]
    by_cases hja:a<j
    ·obtain ⟨jp,HJP⟩:∃ jp,Hid (j=jp+1):=⟨j - 1,Hd (by omega)⟩;have hj1:j<dj.size:=(by omega);have hj2:jp<dj.size:=(by have:=HJP.out;omega);obtain ⟨x,HX⟩:∃ x,Hid (dj[j]! = x):=⟨_,rfl⟩;obtain ⟨y,HY⟩:∃ x,Hid (dj[jp]! = x):=⟨_,rfl⟩;have gx:=HGJ.out _ (List.mem_of_getElem? (zfF hj1));have gy:=HGJ.out _ (List.mem_of_getElem? (zfF hj2));obtain ⟨g1,cx,e1,hb1,hlt1,-,-,hlx,hcx,hrx⟩:=HOJ.out.at_ j _ (zfF hj1);obtain ⟨g2,cy,e2,-,-,-,-,hly,hcy,hry⟩:=HOJ.out.at_ jp _ (zfF hj2);cases e1;cases e2;have OUT2:Hid (j<=a\/ltS cf x y=false->insOuter (ltS cf) a b (i+1) dj=insOuter (ltS cf) a b (a+1) d):=fun h=>OUT.out (by
      rw[HX.out,show j - 1=jp by have:=HJP.out;omega,HY.out];exact h)
     have NXT:Hid (ltS cf x y=true->insInner (ltS cf) a jp (swp dj j jp)=insInner (ltS cf) a i dk):=fun h=>by
      have e:=HJP.out;rw[<- HIJ.out,insInner_go (ltS cf) a j dj hja (by rw[HX.out,show j - 1=jp by omega,HY.out];exact h),show j - 1=jp by omega]
     have HSW:Hid ((swp dj j jp).toList=(dj.toList.set j y).set jp x):=by
      have:=zrN dj j jp hj1 hj2;rw[HX.out,HY.out] at this;exact this
     have HGS:Hid (∀ x∈(swp dj j jp).toList,good x):=zCl hj1 hj2 HGJ.out;rw[HX.out] at gx hrx;rw[HY.out] at gy hry;have HRX0:=Hd hrx;have HRY0:=Hd hry;obtain ⟨vA,vE,vF,rfl,⟨hA,-⟩,⟨hE,-⟩,hF,-⟩:=hrx;obtain ⟨vA',vE',vF',rfl,⟨hA',-⟩,⟨hE',-⟩,hF',-⟩:=hry;obtain ⟨⟨author,year,title,key⟩,⟨skey,styp,pa,pe,pf⟩⟩:=x;obtain ⟨⟨author',year',title',key'⟩,⟨skey',styp',pa',pe',pf'⟩⟩:=y;simp only at hA hE hF hA' hE' hF';obtain ⟨aA,cA,rfl,lA⟩:=hA.shape;obtain ⟨aE,cE,rfl,lE⟩:=hE.shape;obtain ⟨aF,cF,rfl,lF⟩:=hF.shape;obtain ⟨aA',cA',rfl,lA'⟩:=hA'.shape;obtain ⟨aE',cE',rfl,lE'⟩:=hE'.shape;obtain ⟨aF',cF',rfl,lF'⟩:=hF'.shape;unfold zEQ at hcx hcy HRX0 HRY0;simp only at hcx hcy HRX0 HRY0;obtain ⟨op,hp11⟩:∃ op,jp * 9=op:=⟨_,rfl⟩;have hj11:j * 9=op+9:=(by have:=HJP.out;omega);have x0:wr.cell? ⟨g,op+9,none⟩=some (.string (bs author)):=(by have:=hcx 0 _ rfl;rw[hj11,Nat.add_assoc] at this;exact this);have x1:wr.cell? ⟨g,op+10,none⟩=some (.int .i64 year):=(by have:=hcx 1 _ rfl;rw[hj11,Nat.add_assoc] at this;exact this);have x2:wr.cell? ⟨g,op+11,none⟩=some (.string (bs title)):=(by have:=hcx 2 _ rfl;rw[hj11,Nat.add_assoc] at this;exact this);have x3:wr.cell? ⟨g,op+12,none⟩=some (.string (bs key)):=(by have:=hcx 3 _ rfl;rw[hj11,Nat.add_assoc] at this;exact this);have x4:wr.cell? ⟨g,op+13,none⟩=some (.string (bs skey)):=(by have:=hcx 4 _ rfl;rw[hj11,Nat.add_assoc] at this;exact this);have x5:wr.cell? ⟨g,op+14,none⟩=some (.string (bs styp)):=(by have:=hcx 5 _ rfl;rw[hj11,Nat.add_assoc] at this;exact this);have x6:wr.cell? ⟨g,op+15,none⟩=some (.slice aA pa.length cA):=(by have:=hcx 6 _ rfl;rw[hj11,Nat.add_assoc] at this;exact this);have x7:wr.cell? ⟨g,op+16,none⟩=some (.slice aE pe.length cE):=(by have:=hcx 7 _ rfl;rw[hj11,Nat.add_assoc] at this;exact this);have x8:wr.cell? ⟨g,op+17,none⟩=some (.slice aF pf.length cF):=(by have:=hcx 8 _ rfl;rw[hj11,Nat.add_assoc] at this;exact this);have y0:wr.cell? ⟨g,op,none⟩=some (.string (bs author')):=(by have:=hcy 0 _ rfl;rw[hp11] at this;exact this);have y1:wr.cell? ⟨g,op+1,none⟩=some (.int .i64 year'):=(by have:=hcy 1 _ rfl;rw[hp11] at this;exact this);have y2:wr.cell? ⟨g,op+2,none⟩=some (.string (bs title')):=(by have:=hcy 2 _ rfl;rw[hp11] at this;exact this);have y3:wr.cell? ⟨g,op+3,none⟩=some (.string (bs key')):=(by have:=hcy 3 _ rfl;rw[hp11] at this;exact this);have y4:wr.cell? ⟨g,op+4,none⟩=some (.string (bs skey')):=(by have:=hcy 4 _ rfl;rw[hp11] at this;exact this);have y5:wr.cell? ⟨g,op+5,none⟩=some (.string (bs styp')):=(by have:=hcy 5 _ rfl;rw[hp11] at this;exact this);have y6:wr.cell? ⟨g,op+6,none⟩=some (.slice aA' pa'.length cA'):=(by have:=hcy 6 _ rfl;rw[hp11] at this;exact this);have y7:wr.cell? ⟨g,op+7,none⟩=some (.slice aE' pe'.length cE'):=(by have:=hcy 7 _ rfl;rw[hp11] at this;exact this);have y8:wr.cell? ⟨g,op+8,none⟩=some (.slice aF' pf'.length cF'):=(by have:=hcy 8 _ rfl;rw[hp11] at this;exact this);have hzg:g<wr.heap.size:=hlt1;have HRX:=Hd HRX0.out;have HRY:=Hd HRY0.out;have wj:IntKind.i64.wrap ((j:Int) - 1)=(jp:Int):=(by rw[IntKind.wrap_i64];have:=HJP.out;omega);have HS:Hid (∀ w',Kept wr w'->(w'.cell? ⟨g,op+9,none⟩=some (.string (bs author))/\w'.cell? ⟨g,op+10,none⟩=some (.int .i64 year)/\w'.cell? ⟨g,op+11,none⟩=some (.string (bs title))/\w'.cell? ⟨g,op+12,none⟩=some (.string (bs key))/\w'.cell? ⟨g,op+13,none⟩=some (.string (bs skey))/\w'.cell? ⟨g,op+14,none⟩=some (.string (bs styp))/\w'.cell? ⟨g,op+15,none⟩=some (.slice aA pa.length cA)/\w'.cell? ⟨g,op+16,none⟩=some (.slice aE pe.length cE)/\w'.cell? ⟨g,op+17,none⟩=some (.slice aF pf.length cF))/\(w'.cell? ⟨g,op,none⟩=some (.string (bs author'))/\w'.cell? ⟨g,op+1,none⟩=some (.int .i64 year')/\w'.cell? ⟨g,op+2,none⟩=some (.string (bs title'))/\w'.cell? ⟨g,op+3,none⟩=some (.string (bs key'))/\w'.cell? ⟨g,op+4,none⟩=some (.string (bs skey'))/\w'.cell? ⟨g,op+5,none⟩=some (.string (bs styp'))/\w'.cell? ⟨g,op+6,none⟩=some (.slice aA' pa'.length cA')/\w'.cell? ⟨g,op+7,none⟩=some (.slice aE' pe'.length cE')/\w'.cell? ⟨g,op+8,none⟩=some (.slice aF' pf'.length cF'))/\g<w'.heap.size/\Kept wr w'):=fun w' h=>⟨⟨(h.cell (p:=⟨g,op+9,none⟩) hzg).trans x0,(h.cell (p:=⟨g,op+10,none⟩) hzg).trans x1,(h.cell (p:=⟨g,op+11,none⟩) hzg).trans x2,(h.cell (p:=⟨g,op+12,none⟩) hzg).trans x3,(h.cell (p:=⟨g,op+13,none⟩) hzg).trans x4,(h.cell (p:=⟨g,op+14,none⟩) hzg).trans x5,(h.cell (p:=⟨g,op+15,none⟩) hzg).trans x6,(h.cell (p:=⟨g,op+16,none⟩) hzg).trans x7,(h.cell (p:=⟨g,op+17,none⟩) hzg).trans x8⟩,⟨(h.cell (p:=⟨g,op,none⟩) hzg).trans y0,(h.cell (p:=⟨g,op+1,none⟩) hzg).trans y1,(h.cell (p:=⟨g,op+2,none⟩) hzg).trans y2,(h.cell (p:=⟨g,op+3,none⟩) hzg).trans y3,(h.cell (p:=⟨g,op+4,none⟩) hzg).trans y4,(h.cell (p:=⟨g,op+5,none⟩) hzg).trans y5,(h.cell (p:=⟨g,op+6,none⟩) hzg).trans y6,(h.cell (p:=⟨g,op+7,none⟩) hzg).trans y7,(h.cell (p:=⟨g,op+8,none⟩) hzg).trans y8⟩,Nat.lt_of_lt_of_le hzg h.size,h⟩;have q0:decide ((a:Int)<(j:Int))=true:=decide_eq_true (by omega);have q0':decide (a<j)=true:=decide_eq_true (by omega);have q1:(0:Int)<=(jp:Int):=(by omega);have q1':(0:Int)<=(j:Int):=(by omega);have q2:(j:Int)<(d.size:Int):=(by omega);have q3:(jp:Int)<(d.size:Int):=(by omega);have HCC:=Hd (fun w' (k:Kept wr w')=>HC.out w' _ _ _ _ (HKJ.out.trans (Only.of_kept k)) gx gy (zp2.sam HRX.out (Sam.kept k) (fun _ _ q=>q)) (zp2.sam HRY.out (Sam.kept k) (fun _ _ q=>q)));obtain ⟨r,HR⟩:∃ r,Hid (cf ⟨⟨author,year,title,key⟩,⟨skey,styp,pa,pe,pf⟩⟩ ⟨⟨author',year',title',key'⟩,⟨skey',styp',pa',pe',pf'⟩⟩=r):=⟨_,rfl⟩;unfold ltS at OUT2 NXT;rw[HR.out] at HCC OUT2 NXT;clear hA hE hF hA' hE' hF' gx gy hcx hcy hlx hly hlt1 hb1 HRX0 HRY0;have hkd:Kept wr wr.drew:=zaB wr 1;by_cases hlv:r<0
     ·have hl1:decide (r<0)=true:=decide_eq_true hlv;go_wp2_with fail
      go_region_held3 (fun w'=>(w'.cell? ⟨g,op+9,none⟩=some (.string (bs author))/\w'.cell? ⟨g,op+10,none⟩=some (.int .i64 year)/\w'.cell? ⟨g,op+11,none⟩=some (.string (bs title))/\w'.cell? ⟨g,op+12,none⟩=some (.string (bs key))/\w'.cell? ⟨g,op+13,none⟩=some (.string (bs skey))/\w'.cell? ⟨g,op+14,none⟩=some (.string (bs styp))/\w'.cell? ⟨g,op+15,none⟩=some (.slice aA pa.length cA)/\w'.cell? ⟨g,op+16,none⟩=some (.slice aE pe.length cE)/\w'.cell? ⟨g,op+17,none⟩=some (.slice aF pf.length cF))/\(w'.cell? ⟨g,op,none⟩=some (.string (bs author'))/\w'.cell? ⟨g,op+1,none⟩=some (.int .i64 year')/\w'.cell? ⟨g,op+2,none⟩=some (.string (bs title'))/\w'.cell? ⟨g,op+3,none⟩=some (.string (bs key'))/\w'.cell? ⟨g,op+4,none⟩=some (.string (bs skey'))/\w'.cell? ⟨g,op+5,none⟩=some (.string (bs styp'))/\w'.cell? ⟨g,op+6,none⟩=some (.slice aA' pa'.length cA')/\w'.cell? ⟨g,op+7,none⟩=some (.slice aE' pe'.length cE')/\w'.cell? ⟨g,op+8,none⟩=some (.slice aF' pf'.length cF'))/\g<w'.heap.size/\Kept wr w')
       ((refine HS.out _ ?_;assumption))
       (first|(go_at_call 41;refine (HCC.out _ (by assumption)).mono ?_;rintro e w5 ⟨rfl,hk5⟩;have kz:Kept wr w5:=Kept.trans (by assumption) hk5;have KZ:=Hd kz;clear hk5))
      clear HS HCC;have HO5:=Hd (HOJ.out.kept zp2 KZ.out);have HRX5:=Hd (zp2.sam HRX.out (Sam.kept KZ.out) (fun _ _ q=>q));have HRY5:=Hd (zp2.sam HRY.out (Sam.kept KZ.out) (fun _ _ q=>q));have hthj:∀ i,i<9->w5.frozen? ⟨g,op+(9+i),none⟩=false:=fun i hi=>by
       have:=(HO5.out.there j (by rw[Array.length_toList];omega) i hi).2;rw[hj11,Nat.add_assoc] at this;exact this
      have hthp:∀ i,i<9->w5.frozen? ⟨g,op+i,none⟩=false:=fun i hi=>by
       have:=(HO5.out.there jp (by rw[Array.length_toList];omega) i hi).2;rw[hp11] at this;exact this
      have z0:w5.cell? ⟨g,op+9,none⟩=some (.string (bs author)):=(KZ.out.cell (p:=⟨g,op+9,none⟩) hzg).trans x0;have z1:w5.cell? ⟨g,op+10,none⟩=some (.int .i64 year):=(KZ.out.cell (p:=⟨g,op+10,none⟩) hzg).trans x1;have z2:w5.cell? ⟨g,op+11,none⟩=some (.string (bs title)):=(KZ.out.cell (p:=⟨g,op+11,none⟩) hzg).trans x2;have z3:w5.cell? ⟨g,op+12,none⟩=some (.string (bs key)):=(KZ.out.cell (p:=⟨g,op+12,none⟩) hzg).trans x3;have z4:w5.cell? ⟨g,op+13,none⟩=some (.string (bs skey)):=(KZ.out.cell (p:=⟨g,op+13,none⟩) hzg).trans x4;have z5:w5.cell? ⟨g,op+14,none⟩=some (.string (bs styp)):=(KZ.out.cell (p:=⟨g,op+14,none⟩) hzg).trans x5;have z6:w5.cell? ⟨g,op+15,none⟩=some (.slice aA pa.length cA):=(KZ.out.cell (p:=⟨g,op+15,none⟩) hzg).trans x6;have z7:w5.cell? ⟨g,op+16,none⟩=some (.slice aE pe.length cE):=(KZ.out.cell (p:=⟨g,op+16,none⟩) hzg).trans x7;have z8:w5.cell? ⟨g,op+17,none⟩=some (.slice aF pf.length cF):=(KZ.out.cell (p:=⟨g,op+17,none⟩) hzg).trans x8;have u0:w5.cell? ⟨g,op,none⟩=some (.string (bs author')):=(KZ.out.cell (p:=⟨g,op,none⟩) hzg).trans y0;have u1:w5.cell? ⟨g,op+1,none⟩=some (.int .i64 year'):=(KZ.out.cell (p:=⟨g,op+1,none⟩) hzg).trans y1;have u2:w5.cell? ⟨g,op+2,none⟩=some (.string (bs title')):=(KZ.out.cell (p:=⟨g,op+2,none⟩) hzg).trans y2;have u3:w5.cell? ⟨g,op+3,none⟩=some (.string (bs key')):=(KZ.out.cell (p:=⟨g,op+3,none⟩) hzg).trans y3;have u4:w5.cell? ⟨g,op+4,none⟩=some (.string (bs skey')):=(KZ.out.cell (p:=⟨g,op+4,none⟩) hzg).trans y4;have u5:w5.cell? ⟨g,op+5,none⟩=some (.string (bs styp')):=(KZ.out.cell (p:=⟨g,op+5,none⟩) hzg).trans y5;have u6:w5.cell? ⟨g,op+6,none⟩=some (.slice aA' pa'.length cA'):=(KZ.out.cell (p:=⟨g,op+6,none⟩) hzg).trans y6;have u7:w5.cell? ⟨g,op+7,none⟩=some (.slice aE' pe'.length cE'):=(KZ.out.cell (p:=⟨g,op+7,none⟩) hzg).trans y7;have u8:w5.cell? ⟨g,op+8,none⟩=some (.slice aF' pf'.length cF'):=(KZ.out.cell (p:=⟨g,op+8,none⟩) hzg).trans y8;have fx0:w5.frozen? ⟨g,op+9,none⟩=false:=hthj 0 (by omega);have fx1:w5.frozen? ⟨g,op+10,none⟩=false:=hthj 1 (by omega);have fx2:w5.frozen? ⟨g,op+11,none⟩=false:=hthj 2 (by omega);have fx3:w5.frozen? ⟨g,op+12,none⟩=false:=hthj 3 (by omega);have fx4:w5.frozen? ⟨g,op+13,none⟩=false:=hthj 4 (by omega);have fx5:w5.frozen? ⟨g,op+14,none⟩=false:=hthj 5 (by omega);have fx6:w5.frozen? ⟨g,op+15,none⟩=false:=hthj 6 (by omega);have fx7:w5.frozen? ⟨g,op+16,none⟩=false:=hthj 7 (by omega);have fx8:w5.frozen? ⟨g,op+17,none⟩=false:=hthj 8 (by omega);have fy0:w5.frozen? ⟨g,op,none⟩=false:=hthp 0 (by omega);have fy1:w5.frozen? ⟨g,op+1,none⟩=false:=hthp 1 (by omega);have fy2:w5.frozen? ⟨g,op+2,none⟩=false:=hthp 2 (by omega);have fy3:w5.frozen? ⟨g,op+3,none⟩=false:=hthp 3 (by omega);have fy4:w5.frozen? ⟨g,op+4,none⟩=false:=hthp 4 (by omega);have fy5:w5.frozen? ⟨g,op+5,none⟩=false:=hthp 5 (by omega);have fy6:w5.frozen? ⟨g,op+6,none⟩=false:=hthp 6 (by omega);have fy7:w5.frozen? ⟨g,op+7,none⟩=false:=hthp 7 (by omega);have fy8:w5.frozen? ⟨g,op+8,none⟩=false:=hthp 8 (by omega);clear hthj hthp;go_wp2_with fail;go_region;clear z0 u0 fx0 fy0 z1 u1 fx1 fy1 z2 u2 fx2 fy2 z3 u3 fx3 fy3 z4 u4 fx4 fy4 z5 u5 fx5 fy5 z6 u6 fx6 fy6 z7 u7 fx7 fy7 z8 u8 fx8 fy8;generalize hW:World.drew _=w8;have hW2:((w5.setCells g (op+9) [.string (bs author'),.int .i64 year',.string (bs title'),.string (bs key'),.string (bs skey'),.string (bs styp'),.slice aA' pa'.length cA',.slice aE' pe'.length cE',.slice aF' pf'.length cF']).setCells g op [.string (bs author),.int .i64 year,.string (bs title),.string (bs key),.string (bs skey),.string (bs styp),.slice aA pa.length cA,.slice aE pe.length cE,.slice aF pf.length cF]).drew=w8:=hW;clear hW;have ho6:=HO5.out.put zp2 j (by rw[Array.length_toList];exact hj1) [.string (bs author'),.int .i64 year',.string (bs title'),.string (bs key'),.string (bs skey'),.string (bs styp'),.slice aA' pa'.length cA',.slice aE' pe'.length cE',.slice aF' pf'.length cF'] _ rfl HRY5.out;rw[hj11] at ho6;have hrx6:=zp2.sam HRX5.out (Sam.only (zc2 [.string (bs author'),.int .i64 year',.string (bs title'),.string (bs key'),.string (bs skey'),.string (bs styp'),.slice aA' pa'.length cA',.slice aE' pe'.length cE',.slice aF' pf'.length cF'] (op+9) w5) (fun _ _ q h=>q.2 h.symm)) (fun _ _ q=>q);have ho7:=ho6.put zp2 jp (by rw[List.length_set,Array.length_toList];exact hj2) [.string (bs author),.int .i64 year,.string (bs title),.string (bs key),.string (bs skey),.string (bs styp),.slice aA pa.length cA,.slice aE pe.length cE,.slice aF pf.length cF] _ rfl hrx6;rw[hp11,<- HSW.out] at ho7;have HO8:Hid (OutG SorK 9 A base 86 w8 (.slice (some ⟨g,0,none⟩) d.size cap) (swp dj j jp).toList):=(by rw[<- hW2];exact ho7.kept zp2 (zaB _ 1));have HK8:Hid (Only (fun i=>i=g) w w8):=by
       rw[<- hW2];exact (HKJ.out.trans (Only.of_kept KZ.out)).trans (((zc2 _ _ _).trans (zc2 _ _ _)).trans (Only.of_kept (zaB _ 1)))
      have HN8:=Hd (NXT.out hl1);have hsz8:(swp dj j jp).size=d.size:=(by rw[size_swp];exact hsj);clear ho6 hrx6 ho7 hW2 HO5 HRX5 HRY5 HSW NXT OUT OUT2;go_wp2_with fail;go_roundw
      case rel=>exact ⟨jp,swp dj j jp,rfl,by have:=HJP.out;omega,by have:=HJP.out;omega,hsz8,HO8.out,HK8.out,HGS.out,HN8.out⟩
      case measure=>have:=HJP.out;simp [intOf];omega
     ·have hl1:decide (r<0)=false:=decide_eq_false hlv;go_wp2_with fail
      go_region_held3 (fun w'=>(w'.cell? ⟨g,op+9,none⟩=some (.string (bs author))/\w'.cell? ⟨g,op+10,none⟩=some (.int .i64 year)/\w'.cell? ⟨g,op+11,none⟩=some (.string (bs title))/\w'.cell? ⟨g,op+12,none⟩=some (.string (bs key))/\w'.cell? ⟨g,op+13,none⟩=some (.string (bs skey))/\w'.cell? ⟨g,op+14,none⟩=some (.string (bs styp))/\w'.cell? ⟨g,op+15,none⟩=some (.slice aA pa.length cA)/\w'.cell? ⟨g,op+16,none⟩=some (.slice aE pe.length cE)/\w'.cell? ⟨g,op+17,none⟩=some (.slice aF pf.length cF))/\(w'.cell? ⟨g,op,none⟩=some (.string (bs author'))/\w'.cell? ⟨g,op+1,none⟩=some (.int .i64 year')/\w'.cell? ⟨g,op+2,none⟩=some (.string (bs title'))/\w'.cell? ⟨g,op+3,none⟩=some (.string (bs key'))/\w'.cell? ⟨g,op+4,none⟩=some (.string (bs skey'))/\w'.cell? ⟨g,op+5,none⟩=some (.string (bs styp'))/\w'.cell? ⟨g,op+6,none⟩=some (.slice aA' pa'.length cA')/\w'.cell? ⟨g,op+7,none⟩=some (.slice aE' pe'.length cE')/\w'.cell? ⟨g,op+8,none⟩=some (.slice aF' pf'.length cF'))/\g<w'.heap.size/\Kept wr w')
       ((refine HS.out _ ?_;assumption))
       (first|(go_at_call 41;refine (HCC.out _ (by assumption)).mono ?_;rintro e w5 ⟨rfl,hk5⟩;have kz:Kept wr w5:=Kept.trans (by assumption) hk5;have KZ:=Hd kz;clear hk5))
      clear HS HCC;have HO5:=Hd (HOJ.out.kept zp2 KZ.out);have HK5:Hid (Only (fun i=>i=g) w w5):=HKJ.out.trans (Only.of_kept KZ.out);have HN5:=Hd (OUT2.out (.inr hl1));clear OUT OUT2 NXT HSW;go_wp2_with fail;go_roundw
      case rel=>exact ⟨i+1,dj,by go_num,by omega,.inl (by omega),hsj,HO5.out,HK5.out,HGJ.out,HN5.out⟩
      case measure=>simp [intOf];omega
    ·have q0:decide ((a:Int)<(j:Int))=false:=decide_eq_false (by omega);have q0':decide (a<j)=false:=decide_eq_false hja;have HN5:=Hd (OUT.out (.inl (by omega)));clear OUT;go_wp2_with fail
     go_quiet (fail)
     go_wp2_with fail;go_roundw
     case rel=>exact ⟨i+1,dj,by go_num,by omega,.inl (by omega),hsj,HOJ.out.kept zp2 (zaB wr _),HKJ.out.trans (Only.of_kept (zaB wr _)),HGJ.out,HN5.out⟩
     case measure=>simp [intOf];omega
  ·have hltz:¬ (i:Int)<(b:Int):=(by omega);have HF:=Hd (HFIN.out wr dk HOR.out hsk HKR.out (by rw[<- HIR.out,insOuter_stop _ _ _ _ _ hlt,insOuter_stop _ _ _ _ _ (Nat.lt_irrefl b)]));go_wp2_with fail
   go_end0
   exact HF.out
theorem zwL (v fv:Value) (w:World) :
  Calls Tryz.prog 142 #[v,.int .i64 0,.int .i64 0,fv] w fun e w'=>e=.returned (.tuple #[])/\w'=w:=by
 go_enter Tryz.func142,Tryz.ntmps142;go_wp2_with fail;go_loopw [8] (fun vi wr=>vi=.int .i64 1/\w=wr) (fun _ _=>0)
 case atStart=>exact ⟨rfl,rfl⟩
 case round =>
  obtain ⟨rfl,rfl⟩:=hrel;go_wp2_with fail
  go_end0
  exact ⟨rfl,rfl⟩
def zxQ (cf:SorT->SorT->Int) (xs:List SorT):List SorT:=(insertionSort (ltS cf) xs.toArray 0 xs.length).toList
theorem zhF (lt:SorT->SorT->Bool) (a:Nat):∀ (j:Nat) (d:Array SorT),(insInner lt a j d).size=d.size
 | 0,d=>rfl
 | j+1,d=>by
  unfold insInner
  split
  ·rw[zhF lt a j,size_swp]
  ·rfl
theorem zhG (lt:SorT->SorT->Bool) (a b:Nat):∀ (n i:Nat) (d:Array SorT),b - i<=n->(insOuter lt a b i d).size=d.size
 | 0,i,d,h=>by rw[insOuter_stop _ _ _ _ _ (by omega)]
 | n+1,i,d,h=>by
  by_cases q:i<b
  ·rw[insOuter_go _ _ _ _ _ q,zhG lt a b n (i+1) _ (by omega),zhF]
  ·rw[insOuter_stop _ _ _ _ _ q]
theorem zpJ (cf:SorT->SorT->Int) (xs:List SorT):(zxQ cf xs).length=xs.length:=by
 unfold zxQ insertionSort;rw[Array.length_toList,zhG _ _ _ _ _ _ (Nat.le_refl _),List.size_toArray]
theorem zCm (cf:SorT->SorT->Int):zxQ cf []=[]:=List.length_eq_zero_iff.1 (zpJ cf [])
def SrsS (base:Nat) (A:Nat->Prop) (v:Value) (zs:List SorT) (w:World) (e:Ending) (w':World):Prop:=e=.returned (.tuple #[])/\OutG SorK 9 A base 86 w' v zs/\Only (fun i=>v.ownBlock=some i) w w'
theorem zz9 (C C2 base:Nat) (A:Nat->Prop) (cf:SorT->SorT->Int) (good:SorT->Prop) (v:Value) (xs:List SorT) (w:World)
  (hO:OutG SorK 9 A base 86 w v xs) (hg:∀ x∈xs,good x) (hl:xs.length<=19)
  (hcmp:∀ (w':World) (cs ds:List Value) (x y:SorT),Only (fun i=>v.ownBlock=some i) w w'->good x->good y->SorK (fun i=>A i/\v.ownBlock≠some i) w' cs x->SorK (fun i=>A i/\v.ownBlock≠some i) w' ds y ->
   Calls Tryz.prog 41 #[.agg cs.toArray,.agg ds.toArray,.pointer (some ⟨C,0,none⟩),.pointer (some ⟨C2,0,none⟩)] w' fun e w''=>e=.returned (.int .i64 (cf x y))/\Kept w' w'') :
  Calls Tryz.prog 94 #[v,.int .i64 xs.length,.func (.func 41) #[] #[.pointer (some ⟨C,0,none⟩),.pointer (some ⟨C2,0,none⟩)]] w (SrsS base A v (zxQ cf xs) w):=by
 have HS:Hid (Calls Tryz.prog 142 #[v,.int .i64 0,.int .i64 xs.length,.func (.func 41) #[] #[.pointer (some ⟨C,0,none⟩),.pointer (some ⟨C2,0,none⟩)]] w (SrsS base A v (zxQ cf xs) w)):=by
  by_cases hn:xs.length=0
  ·obtain rfl:xs=[]:=List.length_eq_zero_iff.1 hn;refine (zwL v _ w).mono ?_;rintro e w' ⟨rfl,rfl⟩;rw[zCm];exact ⟨rfl,hO,Only.of_kept (Kept.refl _)⟩
  ·obtain ⟨a,c,rfl,hc,hm⟩:=hO.form;obtain ⟨g,cs,rfl,-⟩:=hO.at_ 0 xs[0] (List.getElem?_eq_getElem (by omega));have e0:∀ i,(Value.slice (some ⟨g,0,none⟩) xs.length c).ownBlock=some i↔i=g:=fun i=>by
    constructor
    ·intro h;have:g=i:=(by simpa [Value.ownBlock] using h);exact this.symm
    ·rintro rfl;rfl
   have e1:(fun i=>A i/\(Value.slice (some ⟨g,0,none⟩) xs.length c).ownBlock≠some i)=(fun i=>A i/\g≠i):=by
    funext i;simp [Value.ownBlock]
   have e2:(fun i=>(Value.slice (some ⟨g,0,none⟩) xs.length c).ownBlock=some i)=(fun i=>i=g):=by
    funext i;exact propext (e0 i)
   have:=zwK C C2 base A cf good g c 0 xs.length xs.toArray w (by simpa using hO) (by simpa using hg) (Nat.zero_le _) (by simp) (by simp;omega) (fun w' cs ds x y h1 h2 h3 h4 h5=>hcmp w' cs ds x y (by rw[e2];exact h1) h2 h3 (by rw[e1];exact h4) (by rw[e1];exact h5));refine Calls.mono (by simpa using this) ?_;rintro e w' ⟨r1,r2,r3⟩;refine ⟨r1,?_,by rw[e2];exact r3⟩;have hz:(insertionSort (ltS cf) xs.toArray 0 xs.length).size=xs.length:=by
    have:=zpJ cf xs;unfold zxQ at this;rwa [Array.length_toList] at this
   rw[hz] at r2;exact r2
 have HS2:Hid (Calls Tryz.prog 142 #[v,.int .i64 0,.int .i64 xs.length,.func (.func 41) #[] #[.pointer (some ⟨C,0,none⟩),.pointer (some ⟨C2,0,none⟩)]] w (fun e w'=>e=.returned (.tuple #[])/\Hid (SrsS base A v (zxQ cf xs) w (.returned (.tuple #[])) w'))):=by
  refine HS.out.mono ?_;rintro e w' ⟨rfl,h2,h3⟩;exact ⟨rfl,rfl,h2,h3⟩
 have hl':(xs.length:Int)<=19:=(by omega);clear HS;generalize hQ:SrsS base A v (zxQ cf xs) w=Q at *;clear hO hg hcmp hQ;have q1:decide ((20:Int)<=(xs.length:Int))=false:=decide_eq_false (by omega);have q2:decide ((20:Int)<(xs.length:Int))=false:=decide_eq_false (by omega);have q1':decide (20<=xs.length)=false:=decide_eq_false (by omega);have q2':decide (20<xs.length)=false:=decide_eq_false (by omega);go_enter Tryz.func94,Tryz.ntmps94;go_wp2_with fail;go_loopw [7,8] (fun va vb wr=>va=.int .i64 0/\vb=.int .i64 20/\w=wr) (fun _ _ _=>0)
 case atStart=>exact ⟨rfl,rfl,rfl⟩
 case round =>
  obtain ⟨rfl,rfl,rfl⟩:=hrel;go_wp2_with fail;refine HS2.out.mono ?_;rintro e w1 ⟨rfl,HQ⟩;clear HS2;go_wp2_with fail;go_loopw [6,7,8,9] (fun v6 v7 v8 v9 wr=>v6=.int .i64 20/\w1=wr) (fun _ _ _ _ _=>0)
  case atStart=>exact ⟨rfl,rfl⟩
  case round =>
   obtain ⟨rfl,rfl⟩:=hrel;go_wp2_with fail
   go_end0
   exact HQ.out
theorem zwM (C C2 base:Nat) (A:Nat->Prop) (cf:SorT->SorT->Int) (good:SorT->Prop) (v:Value) (xs:List SorT) (w:World)
  (hO:OutG SorK 9 A base 86 w v xs) (hg:∀ x∈xs,good x) (hl:xs.length<=19)
  (hcmp:∀ (w':World) (cs ds:List Value) (x y:SorT),Only (fun i=>v.ownBlock=some i) w w'->good x->good y->SorK (fun i=>A i/\v.ownBlock≠some i) w' cs x->SorK (fun i=>A i/\v.ownBlock≠some i) w' ds y ->
   Calls Tryz.prog 41 #[.agg cs.toArray,.agg ds.toArray,.pointer (some ⟨C,0,none⟩),.pointer (some ⟨C2,0,none⟩)] w' fun e w''=>e=.returned (.int .i64 (cf x y))/\Kept w' w'') :
  Calls Tryz.prog 40 #[v,.func (.func 41) #[] #[.pointer (some ⟨C,0,none⟩),.pointer (some ⟨C2,0,none⟩)]] w (SrsS base A v (zxQ cf xs) w):=by
 have HS:=Hd (zz9 C C2 base A cf good v xs w hO hg hl hcmp);obtain ⟨a,c,rfl,-⟩:=hO.form;unfold SrsS at HS ⊢;clear hO hg hcmp;go_enter Tryz.func40,Tryz.ntmps40;go_wp2_with fail;refine HS.out.mono ?_;rintro e w1 ⟨rfl,h2,h3⟩;go_wp2_with fail
 go_end0
 exact ⟨rfl,h2,h3⟩
end Go.Proofs.YtmcoomlkbgiboaaGreatDoor
