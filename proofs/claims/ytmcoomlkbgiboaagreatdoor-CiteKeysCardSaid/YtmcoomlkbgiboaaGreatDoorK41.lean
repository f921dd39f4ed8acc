/- append of a whole list to nothing: a copy. Conditions: lengths. -/
import Derived.Test.YtmcoomlkbgiboaaGreatDoorK08
import Derived.Test.YtmcoomlkbgiboaaGreatDoorK04
import Derived.Test.YtmcoomlkbgiboaaGreatDoorK12
import Derived.Test.YtmcoomlkbgiboaaGreatDoorK36

set_option linter.all false
namespace Go.Proofs.YtmcoomlkbgiboaaGreatDoor
open Go.RowKit

theorem wp_append_all {P:Program} (w:World) {o:Oper} {a:Act} {K:Act→World→Prop} {Q:Exit→Act→World→Prop} (s x:Operand) (t:TypeId)
  (ho:o.op=.call { callee:=.builtin .append,args:=#[s,x],argTypes:=#[t,t] })
  (base:Nat) (e:TypeId) (i:TypeInfo) (z:Value) (size bytes:Nat) (ht:P.underlying t=some (.slice e)) (hi:P.info? e=some i) (hz:i.zero=some z)
  (hsize:i.size=size) (hby:i.bytes=bytes) (hzs:z.cells.size=size) (hsz:0<size)
  (v:Value) (n:Nat) (xs:List Value) (hs:a.eval s=v) (hown:w.ownsRow base e size v n xs)
  (a':Option Addr) (m c:Nat) (news:List Value) (hx:a.eval x=.slice a' m c) (hl:news.length=m * size)
  (hsrc:0<m→∃ g o2,a'=some ⟨g,o2,none⟩∧∀ j u,news[j]? = some u→w.cell? ⟨g,o2+j,none⟩=some u) (h1:∀ u∈news,u.oneCell'=true)
  (h63:n+m≤maxLen) (hbytes:(n+m) * bytes≤140737488355328) (hbase:base≤w.heap.size)
  (h:∀ v' w',w'.ownsRow base e size v' (n+m) (xs ++ news)→w.grownBy w' v.ownBlock→(∀ g,v'.ownBlock=some g→v.ownBlock=some g∨g=w.heap.size)→K (a.put o.dst v') w'):Oper.wp P o a w K Q:=by
 by_cases hq:0<m
 ·obtain ⟨g,o2,rfl,hc⟩:=hsrc hq
  refine wp_append_lies w s x t ho base e i z size bytes ht hi hz hsize hby hzs hsz v n xs hs hown ⟨g,o2,none⟩ m c news hx hl (fun j u hu=>by rw [addr_at]; exact hc j u hu) h1 hq h63 hbytes hbase w.heap.size rfl ?_
  intro g' cap w' h1 h2 h4 _
  exact h _ _ h1 h2 (fun g hg=>by cases hg; exact h4)
 ·obtain rfl:m=0:=by omega
  obtain rfl:news=[]:=List.length_eq_zero_iff.1 (by omega)
  have hown':=hown
  obtain ⟨a2,c2,rfl,hle,_,_⟩:=own_cap hown
  have hsrc:Src P i.size t (.slice a' 0 c) 0 [] w:=by
   refine ⟨.inl ⟨_,ht⟩,fun w'=>?_,?_,?_,by simp,by simp⟩
   ·simp [Builtin.lenOf]
   ·cases a' <;> simp [Builtin.firstCells,loadCells,loadCellsFrom]
   ·cases a' <;> simp [Builtin.firstCells,loadCells,loadCellsFrom]
  have hr:=run_append_nothing (P:=P) w t t o.type e i ht hi a2 n c2 hle (.slice a' 0 c) hsrc
  unfold Oper.wp execOp
  simp only [ho,resolve,invoke,builtin,Sem.run_bind,Sem.run_pure,Result.andThen_ok,List.map_toArray,List.map_cons,List.map_nil,hs,hx]
  rw [hr]
  refine h _ _ ?_ (World.grownBy.refl _ _) (fun g hg=>.inl hg)
  rw [List.append_nil]; exact hown'
end Go.Proofs.YtmcoomlkbgiboaaGreatDoor

/- A whole list is appended to a row that a call owns. Conditions: lengths. -/
set_option linter.all false
namespace Go.Proofs.YtmcoomlkbgiboaaGreatDoor
open Go.RowKit

section
variable {α:Type} {R:(Nat→Prop)→World→List Value→α→Prop} {k:Nat} {A:Nat→Prop} {base:Nat} {e:TypeId} {w:World} {v:Value} {xs:List α}
theorem wpList_append_row {P:Program} (hR:ReadK R) {ops:Array Oper} {rest:List Oper} {o:Oper} {a:Act} {Q:Exit→Act→World→Prop} (hgd:o.guard=none) (s x:Operand) (t:TypeId)
  (ho:o.op=.call { callee:=.builtin .append,args:=#[s,x],argTypes:=#[t,t] })
  (i:TypeInfo) (z:Value) (bytes:Nat) (ht:P.underlying t=some (.slice e)) (hi:P.info? e=some i) (hz:i.zero=some z) (hsize:i.size=k) (hby:i.bytes=bytes) (hzs:z.cells.size=k) (hsz:0<k)
  {S:Nat→Prop} {ys:List α} (hs:a.eval s=v) (hown:OutG R k A base e w v xs) (v2:Value) (hx:a.eval x=v2) (hys:RowR S k (R S w) w v2 ys) (hS:∀ g,g<w.heap.size→S g→A g∧v.ownBlock≠some g)
  (h63:xs.length+ys.length≤maxLen) (hbytes:(xs.length+ys.length) * bytes≤140737488355328) (hbase:base≤w.heap.size)
  (h:∀ v' w',OutG R k A base e w' v' (xs ++ ys)→w.grownBy w' v.ownBlock→wpList P ops Q rest (a.put o.dst v') w'):wpList P ops Q (o :: rest) a w:=by
 obtain ⟨css,h1,h2,ho2,h4⟩:=hown
 obtain ⟨a',c,rfl,hc⟩:=hys.form
 obtain ⟨css2,k1,k2,k4,k5⟩:=RowR.css hsz hys
 refine wpList_plain hgd fun _ hK=>wp_append_all w s x t ho base e i z k bytes ht hi hz hsize hby hzs hsz v xs.length css.flatten hs ho2 a' ys.length c css2.flatten hx (by rw [flat_len css2 k2,k1]) (fun q=>?_) (fun u hu=>?_) h63 hbytes hbase (fun v' w' q1 q2 q3=>hK _ _ (h v' w' ?_ q2))
 ·obtain ⟨g,o,e,_,_,hcell⟩:=k5 q
  exact ⟨g,o,e,hcell⟩
 ·obtain ⟨cs,hcs,hu⟩:=List.mem_flatten.1 hu
  obtain ⟨j,hj,rfl⟩:=List.getElem_of_mem hcs
  exact hR.one (k4 j _ _ (List.getElem?_eq_getElem hj) (List.getElem?_eq_getElem (by omega))) u hu
 ·have hst:∀ cs x,R (fun g=>A g∧v.ownBlock≠some g) w cs x→R (fun g'=>A g'∧v'.ownBlock≠some g') w' cs x:=fun cs x hx =>
   hR.sam hx (Sam.only (Only.grown q2) (fun g' _ hs q=>hs.2 q.symm)) (fun g' hlt hs=>⟨hs.1,fun q=>(q3 g' q).elim (fun r=>hs.2 r) (fun r=>by omega)⟩)
  refine ⟨css ++ css2,by simp [h1,k1],fun cs hcs=>(List.mem_append.1 hcs).elim (h2 cs) (k2 cs),?_,fun j cs x hc hx=>?_⟩
  ·rw [List.flatten_append,List.length_append]; exact q1
  ·rcases Nat.lt_or_ge j xs.length with q | q
   ·rw [List.getElem?_append_left (by omega)] at hc hx
    exact hst cs x (h4 j cs x hc hx)
   ·rw [List.getElem?_append_right (by omega)] at hc hx
    rw [h1] at hc
    exact hst cs x (hR.sam (k4 _ cs x hc hx) (fun _ _ _=>rfl) (fun g hg q=>hS g hg q))
end
end Go.Proofs.YtmcoomlkbgiboaaGreatDoor

/- publisherref04.List: the blocks of a document in one row. Conditions: lengths. -/
set_option linter.all false
namespace Go.Proofs.YtmcoomlkbgiboaaGreatDoor
open Go.RowKit

theorem Tryz.infoBk5:(Tryz.prog.info? 59).map (fun i=>(i.zero,i.size,i.bytes))=some (some (.agg #[.int .i64 0,.int .i64 0,.string ⟨#[]⟩,.string ⟨#[]⟩,.string ⟨#[]⟩,.string ⟨#[]⟩,.string ⟨#[]⟩,.slice none 0 0,.slice none 0 0,.slice none 0 0,.slice none 0 0]),11,192):=by kernel_rfl
theorem listL_snoc {xs:List Blo} {k:Nat} {x:Blo} (h:xs[k]? = some x):listL (xs.take (k+1))=(listL (xs.take k) ++ [x]) ++ listL x.kids:=by
 have e:listL [x]=x :: listL x.kids:=by
  show list1 x ++ []=_
  rw [List.append_nil,list1_eq]
 rw [take_snoc h,listL_app,e]; simp
theorem listL_led {xs:List Blo} {k:Nat} {x:Blo} (h:xs[k]? = some x):(listL (xs.take k)).length+1+(listL x.kids).length≤(listL xs).length:=by
 obtain ⟨hk,rfl⟩:=List.getElem?_eq_some_iff.1 h
 have e:listL xs=listL (xs.take k) ++ (list1 xs[k] ++ listL (xs.drop (k+1))):=by
  have h0:xs=xs.take k ++ (xs[k] :: xs.drop (k+1)):=by rw [← List.drop_eq_getElem_cons hk,List.take_append_drop]
  conv=>lhs; rw [h0]
  rw [listL_app]; rfl
 rw [e,list1_eq]
 simp only [List.length_append,List.length_cons]
 omega
theorem kids_le:∀ xs:List Blo,xs.length≤(listL xs).length
 | []=>Nat.le_refl _
 | x :: xs=>by
  have h:=kids_le xs
  have e:listL (x :: xs)=(x :: listL x.kids) ++ listL xs:=by
   show list1 x ++ listL xs=_
   rw [list1_eq]
  rw [e,List.length_append,List.length_cons,List.length_cons]; omega
def RlP (S:Nat→Prop) (N n:Nat) (xs:List Blo) (w:World) (e:Ending) (w':World):Prop:=∃ v,e=.returned v∧Bls (fun g=>S g∨w.heap.size≤g) N n w' v (listL xs)∧Kept w w'
set_option maxRecDepth 100000 in
set_option maxHeartbeats 6400000 in
theorem rlist_any (S:Nat→Prop) (N:Nat):∀ (n:Nat) (xs:List Blo) (v:Value) (w:World),(∀ g,S g→g<w.heap.size)→Bls S N n w v xs→(listL xs).length≤100000000000→xs.length≤100000000000 →
  Calls Tryz.prog 26 #[v] w (RlP S N n xs w):=by
 intro n
 induction n with
 | zero =>
  intro xs v w hS hv hl hx
  obtain rfl:=hv.no
  obtain ⟨a,c,rfl,hc⟩:=hv.form
  have HFIN:RlP S N 0 [] w (.returned (.slice none 0 0)) w:=⟨_,rfl,Bls.none_ _ _ _ _,Kept.refl w⟩
  generalize hP:RlP S N 0 [] w=P at *
  clear hv hP hS
  go_enter Tryz.func26,Tryz.ntmps26
  go_wp2_with fail
  go_loopw [3,4] (fun o i wr=>o=.slice none 0 0∧i=.int .i64 0∧w=wr) (fun _ i _=>1)
  case atStart=>exact ⟨rfl,rfl,rfl⟩
  case round =>
   obtain ⟨rfl,rfl,rfl⟩:=hrel
   go_wp2_with fail
   (try go_ret)
   exact HFIN
 | succ n ih =>
  intro xs v w hS hv hl hxl
  have HV:=Lib.hid hv
  have HSL:=Lib.hid hS
  have HIH:=Lib.hid ih
  unfold RlP at HIH
  have HLE:Hid (∀ k x,xs[k]? = some x→(listL (xs.take k)).length+1+(listL x.kids).length≤100000000000):=fun k x h=>Nat.le_trans (listL_led h) hl
  have HFIN:Hid (∀ v w',OutG (BloK N n) 11 (fun g=>S g∨w.heap.size≤g) w.heap.size 59 w' v (listL (xs.take xs.length))→Kept w w'→RlP S N (n+1) xs w (.returned v) w'):=fun v w' h1 h2=>⟨v,rfl,by
   rw [List.take_length] at h1
   exact OutG.row (S:=fun g=>S g∨w.heap.size≤g) (bloK N n) h1 (fun g _ h=>h) (fun g h=>.inr h),h2⟩
  obtain ⟨i0,hi,hz0,hz1,hz2⟩:=info_parts Tryz.infoBk5
  obtain ⟨a,c,rfl,hc⟩:=hv.form
  generalize hP:RlP S N (n+1) xs w=P at *
  clear hP hv ih hS hl
  go_enter Tryz.func26,Tryz.ntmps26
  go_wp2_with fail
  go_loopw [3,4] (fun o i wr=>∃ (k:Nat),k≤xs.length∧i=.int .i64 k∧Hid (OutG (BloK N n) 11 (fun g=>S g∨w.heap.size≤g) w.heap.size 59 wr o (listL (xs.take k)))∧Hid (Kept w wr)) (fun _ i _=>xs.length - (intOf i).toNat)
  case atStart=>exact ⟨0,Nat.zero_le _,rfl,OutG.nil _ _ _ _ _ _,Kept.refl w⟩
  case round =>
   obtain ⟨k,hk,rfl,HGR,HKR⟩:=hrel
   by_cases hlt:k<xs.length
   ·obtain ⟨x,hx⟩:∃ x,xs[k]? = some x:=⟨_,List.getElem?_eq_getElem hlt⟩
    have hle:=HLE.out k x hx
    have hkl:x.kids.length≤(listL x.kids).length:=kids_le x.kids
    have HT:=Lib.hid (listL_snoc hx)
    obtain ⟨g,o,vC,vP,vL,vK,rfl,hgg,hgS,-,-,⟨d0,d1,d2,d3,d4,d5,d6,d7,d8,d9,d10⟩,-,⟨hC,iC⟩,⟨hPP,iP⟩,hL,hK⟩:=Bls.at_ (HV.out.kept HKR.out) k x hx
    clear hx
    obtain ⟨kind,level,info,text,dest,title,id,cls,prs,line,kids⟩:=x
    simp only [Blo.kind,Blo.level,Blo.info,Blo.text,Blo.dest,Blo.title,Blo.id,Blo.cls,Blo.prs,Blo.line,Blo.kids] at d0 d1 d2 d3 d4 d5 d6 hC hPP hL hK iC iP HT hle hkl
    obtain ⟨aC,cC,rfl,lC⟩:=hC.shape
    obtain ⟨aP,cP,rfl,lP⟩:=hPP.shape
    obtain ⟨aL,cL,rfl,lL⟩:=hL.form
    obtain ⟨aK,cK,rfl,lK⟩:=hK.form
    obtain ⟨ar,cr,rfl,hcr,hmr⟩:=HGR.out.form
    obtain ⟨os,HOS⟩:∃ os,Hid (listL (xs.take k)=os):=⟨_,rfl⟩
    rw [HOS.out] at HGR HT hle
    rw [HOS.out]
    have hwr:w.heap.size≤wr.heap.size:=HKR.out.size
    have hka:=kept_alloc wr (.cells #[.int .i64 kind,.int .i64 level,.string (bs info),.string (bs text),.string (bs dest),.string (bs title),.string (bs id),.slice aC cls.length cC,.slice aP prs.length cP,.slice aL line.length cL,.slice aK kids.length cK] 59)
    have hin:∀ g,S g→(S g∨w.heap.size≤g)∧(Value.slice ar os.length cr).ownBlock≠some g:=fun g q=>⟨.inl q,fun r=>by have h1:=(HGR.out.blk g r).1; have h2:=HSL.out g q; omega⟩
    have HY:=Lib.hid ((bloK N n).sam (show BloK N n (fun g=>(S g∨w.heap.size≤g)∧(Value.slice ar os.length cr).ownBlock≠some g) wr [.int .i64 kind,.int .i64 level,.string (bs info),.string (bs text),.string (bs dest),.string (bs title),.string (bs id),.slice aC cls.length cC,.slice aP prs.length cP,.slice aL line.length cL,.slice aK kids.length cK] (Blo.mk kind level info text dest title id cls prs line kids) from ⟨_,_,_,_,rfl,⟨hC,iC.mono (fun g _ _ q=>hin g q)⟩,⟨hPP,iP.mono (fun g _ _ q=>hin g q)⟩,hL.mono (fun g _ q=>hin g q),hK.mono (fun g _ q=>hin g q)⟩) (Sam.kept hka) (fun _ _ q=>q))
    have HG1:=Lib.hid (HGR.out.kept (bloK N n) hka)
    have HROW:=Lib.hid (Blk.new wr 59 #[.int .i64 kind,.int .i64 level,.string (bs info),.string (bs text),.string (bs dest),.string (bs title),.string (bs id),.slice aC cls.length cC,.slice aP prs.length cP,.slice aL line.length cL,.slice aK kids.length cK])
    have HK1:=Lib.hid (HKR.out.trans hka)
    have HKD:=Lib.hid hK
    have HKW:=Lib.hid hka
    have hb1:w.heap.size≤(wr.alloc (.cells #[.int .i64 kind,.int .i64 level,.string (bs info),.string (bs text),.string (bs dest),.string (bs title),.string (bs id),.slice aC cls.length cC,.slice aP prs.length cP,.slice aL line.length cL,.slice aK kids.length cK] 59)).heap.size:=HK1.out.size
    clear hC hPP hL hK iC iP hin hka HGR HOS
    go_wp2_with (at_builtin; refine holdQ ?_)
    refine Lib.hid ?_
    refine wpList_append_out (bloK N n) rfl (.tmp 11) (.tmp 16) 23 rfl i0 _ 192 Tryz.underlying23 hi hz0 hz1 hz2 rfl (by omega) (by rfl) HG1.out wr.heap.size _ (Blo.mk kind level info text dest title id cls prs line kids) (by rfl) (fun j u hu=>HROW.out.cell j u (by rw [← Array.getElem?_toList]; exact hu)) rfl HY.out (by unfold maxLen; omega) (by omega) hb1 _ rfl ?_
    intro g7 c7' w2 hout7 hgrow7 hat7 hlt7
    have HO2:=Lib.hid hout7
    have HK2:Hid (Kept w w2):=HK1.out.trans' ((Only.grown hgrow7).below HK1.out.size (fun i q=>(HG1.out.blk i q.symm).1))
    have hkid:Bls S N n w2 (.slice aK kids.length cK) kids:=(HKD.out.kept HKW.out).step (Only.grown hgrow7) (fun g _ q r=>by have h1:=(HG1.out.blk g r.symm).1; have h2:=HSL.out g q; omega) (fun _ _ q=>q)
    have e10:w2.cell? ⟨g,o+k * 11+10,none⟩=some (.slice aK kids.length cK):=by
     have h1:(wr.alloc (.cells #[.int .i64 kind,.int .i64 level,.string (bs info),.string (bs text),.string (bs dest),.string (bs title),.string (bs id),.slice aC cls.length cC,.slice aP prs.length cP,.slice aL line.length cL,.slice aK kids.length cK] 59)).cell? ⟨g,o+k * 11+10,none⟩=some (.slice aK kids.length cK):=by rw [(Only.of_kept (S:=fun _=>False) HKW.out).cell g (o+k * 11+10) hgg (fun q=>q)]; exact d10
     rw [(Only.grown hgrow7).cell g (o+k * 11+10) (Nat.lt_of_lt_of_le hgg HKW.out.size) (fun r=>by have h1:=(HG1.out.blk g r.symm).1; have h2:=HSL.out g hgS; omega)]
     exact h1
    have hg2:g<w2.heap.size:=Nat.lt_of_lt_of_le (Nat.lt_of_lt_of_le hgg HKW.out.size) (Only.grown hgrow7).size
    have HIX:=Lib.hid (HIH.out kids (.slice aK kids.length cK) w2 (fun g q=>Nat.lt_of_lt_of_le (HSL.out g q) HK2.out.size) hkid (by omega) (by omega))
    have hown:∀ i,(Value.slice (some ⟨g7,0,none⟩) (os.length+1) c7').ownBlock=some i→w.heap.size≤i∧i<w2.heap.size:=fun i q=>HO2.out.blk i q
    have HOWN:=Lib.hid hown
    clear hout7 hgrow7 hat7 hlt7 HY HROW HG1 HK1 HKD HKW hkid hown hb1 d0 d1 d2 d3 d4 d5 d6 d7 d8 d9 d10
    go_wp2_with fail
    refine HIX.out.mono ?_
    rintro e w3 ⟨v3,rfl,hb3,hk3⟩
    obtain ⟨a3,c3,rfl,l3⟩:=hb3.form
    have HO3:=Lib.hid (HO2.out.kept (bloK N n) hk3)
    have HK3:=Lib.hid (HK2.out.trans hk3)
    have HBR:Hid (RowR (fun g=>S g∨w2.heap.size≤g) 11 (BloK N n (fun g=>S g∨w2.heap.size≤g) w3) w3 (.slice a3 (listL kids).length c3) (listL kids)):=hb3.up
    have HSS:Hid (∀ i,i<w3.heap.size→(S i∨w2.heap.size≤i)→(S i∨w.heap.size≤i)∧(Value.slice (some ⟨g7,0,none⟩) (os.length+1) c7').ownBlock≠some i):=fun i _ q=>by
     have hz:=HK2.out.size
     rcases q with q | q
     ·exact ⟨.inl q,fun r=>by have h1:=(HOWN.out i r).1; have h2:=HSL.out i q; omega⟩
     ·exact ⟨.inr (by omega),fun r=>by have h1:=(HOWN.out i r).2; omega⟩
    have hbz:w.heap.size≤w3.heap.size:=HK3.out.size
    have hol:(os ++ [Blo.mk kind level info text dest title id cls prs line kids]).length=os.length+1:=by simp
    have HOL:=Lib.hid hol
    clear hb3 hk3 HO2 HK2 HIX e10 hol
    go_wp2_with (at_builtin; refine holdQ ?_)
    refine Lib.hid ?_
    refine wpList_append_row (bloK N n) rfl (.tmp 18) (.tmp 24) 23 rfl i0 _ 192 Tryz.underlying23 hi hz0 hz1 hz2 rfl (by omega) (by rfl) HO3.out _ (by rfl) HBR.out HSS.out (by rw [HOL.out]; unfold maxLen; omega) (by rw [HOL.out]; omega) hbz ?_
    intro v7 w17 hout9 hgrow9
    obtain ⟨a7,c7,rfl,-,-⟩:=hout9.form
    have HO7:Hid (OutG (BloK N n) 11 (fun g=>S g∨w.heap.size≤g) w.heap.size 59 w17 (.slice a7 (os ++ [Blo.mk kind level info text dest title id cls prs line kids] ++ listL kids).length c7) (listL (xs.take (k+1)))):=by rw [HT.out]; exact hout9
    have HK17:Hid (Kept w w17):=HK3.out.trans' ((Only.grown hgrow9).below HK3.out.size (fun i q=>(HO3.out.blk i q.symm).1))
    clear hout9 hgrow9 HO3 HBR HSS HK3
    go_wp2_with fail
    go_roundw
    case rel=>exact ⟨k+1,by omega,by go_num,(by have h:=HO7.out; rw [show (os ++ [Blo.mk kind level info text dest title id cls prs line kids] ++ listL kids).length=os.length+((listL kids).length+1) by rw [List.length_append,HOL.out]; omega] at h; exact h),HK17.out⟩
    case measure=>simp [intOf]; omega
   ·obtain rfl:k=xs.length:=by omega
    obtain ⟨ar,cr,rfl,hcr,hmr⟩:=HGR.out.form
    have HF:=Lib.hid (HFIN.out _ wr HGR.out HKR.out)
    clear HGR HKR
    go_wp2_with fail
    (try go_ret)
    exact HF.out
end Go.Proofs.YtmcoomlkbgiboaaGreatDoor

/- publisherref04.Deep, Inlines: the inlines of a line, and of a document, in one row. Conditions: lengths. -/
set_option linter.all false
namespace Go.Proofs.YtmcoomlkbgiboaaGreatDoor
open Go.RowKit

theorem Tryz.infoIn5:(Tryz.prog.info? 71).map (fun i=>(i.zero,i.size,i.bytes))=some (some (.agg #[.int .i64 0,.string ⟨#[]⟩,.string ⟨#[]⟩,.string ⟨#[]⟩,.string ⟨#[]⟩,.slice none 0 0,.slice none 0 0,.slice none 0 0,.slice none 0 0,.slice none 0 0]),10,192):=by kernel_rfl
theorem deepL_snocD {xs:List Inl} {k:Nat} {x:Inl} (h:xs[k]? = some x):deepL (xs.take (k+1))=(deepL (xs.take k) ++ [x]) ++ deepL x.kids:=by
 have e:deepL [x]=x :: deepL x.kids:=by
  show deep1 x ++ []=_
  rw [List.append_nil,deep1_eq]
 rw [take_snoc h,deepL_app,e]; simp
theorem deepL_led {xs:List Inl} {k:Nat} {x:Inl} (h:xs[k]? = some x):(deepL (xs.take k)).length+1+(deepL x.kids).length≤(deepL xs).length:=by
 obtain ⟨hk,rfl⟩:=List.getElem?_eq_some_iff.1 h
 have e:deepL xs=deepL (xs.take k) ++ (deep1 xs[k] ++ deepL (xs.drop (k+1))):=by
  have h0:xs=xs.take k ++ (xs[k] :: xs.drop (k+1)):=by rw [← List.drop_eq_getElem_cons hk,List.take_append_drop]
  conv=>lhs; rw [h0]
  rw [deepL_app]; rfl
 rw [e,deep1_eq]
 simp only [List.length_append,List.length_cons]
 omega
theorem deep_kids_le:∀ xs:List Inl,xs.length≤(deepL xs).length
 | []=>Nat.le_refl _
 | x :: xs=>by
  have h:=deep_kids_le xs
  have e:deepL (x :: xs)=(x :: deepL x.kids) ++ deepL xs:=by
   show deep1 x ++ deepL xs=_
   rw [deep1_eq]
  rw [e,List.length_append,List.length_cons,List.length_cons]; omega
def RdP (S:Nat→Prop) (n:Nat) (xs:List Inl) (w:World) (e:Ending) (w':World):Prop:=∃ v,e=.returned v∧Lns (fun g=>S g∨w.heap.size≤g) n w' v (deepL xs)∧Kept w w'
set_option maxRecDepth 100000 in
set_option maxHeartbeats 6400000 in
theorem rdeep_any (S:Nat→Prop):∀ (n:Nat) (xs:List Inl) (v:Value) (w:World),(∀ g,S g→g<w.heap.size)→Lns S n w v xs→(deepL xs).length≤100000000000→xs.length≤100000000000 →
  Calls Tryz.prog 81 #[v] w (RdP S n xs w):=by
 intro n
 induction n with
 | zero =>
  intro xs v w hS hv hl hx
  obtain rfl:=hv.no
  obtain ⟨a,c,rfl,hc⟩:=hv.form
  have HFIN:RdP S 0 [] w (.returned (.slice none 0 0)) w:=⟨_,rfl,Lns.none_ _ _ _,Kept.refl w⟩
  generalize hP:RdP S 0 [] w=P at *
  clear hv hP hS
  go_enter Tryz.func81,Tryz.ntmps81
  go_wp2_with fail
  go_loopw [3,4] (fun o i wr=>o=.slice none 0 0∧i=.int .i64 0∧w=wr) (fun _ i _=>1)
  case atStart=>exact ⟨rfl,rfl,rfl⟩
  case round =>
   obtain ⟨rfl,rfl,rfl⟩:=hrel
   go_wp2_with fail
   (try go_ret)
   exact HFIN
 | succ n ih =>
  intro xs v w hS hv hl hxl
  have HV:=Lib.hid hv
  have HSL:=Lib.hid hS
  have HIH:=Lib.hid ih
  unfold RdP at HIH
  have HLE:Hid (∀ k x,xs[k]? = some x→(deepL (xs.take k)).length+1+(deepL x.kids).length≤100000000000):=fun k x h=>Nat.le_trans (deepL_led h) hl
  have HFIN:Hid (∀ v w',OutG (InlK n) 10 (fun g=>S g∨w.heap.size≤g) w.heap.size 71 w' v (deepL (xs.take xs.length))→Kept w w'→RdP S (n+1) xs w (.returned v) w'):=fun v w' h1 h2=>⟨v,rfl,by
   rw [List.take_length] at h1
   exact OutG.row (S:=fun g=>S g∨w.heap.size≤g) (inlK n) h1 (fun g _ h=>h) (fun g h=>.inr h),h2⟩
  obtain ⟨i0,hi,hz0,hz1,hz2⟩:=info_parts Tryz.infoIn5
  obtain ⟨a,c,rfl,hc⟩:=hv.form
  generalize hP:RdP S (n+1) xs w=P at *
  clear hP hv ih hS hl
  go_enter Tryz.func81,Tryz.ntmps81
  go_wp2_with fail
  go_loopw [3,4] (fun o i wr=>∃ (k:Nat),k≤xs.length∧i=.int .i64 k∧Hid (OutG (InlK n) 10 (fun g=>S g∨w.heap.size≤g) w.heap.size 71 wr o (deepL (xs.take k)))∧Hid (Kept w wr)) (fun _ i _=>xs.length - (intOf i).toNat)
  case atStart=>exact ⟨0,Nat.zero_le _,rfl,OutG.nil _ _ _ _ _ _,Kept.refl w⟩
  case round =>
   obtain ⟨k,hk,rfl,HGR,HKR⟩:=hrel
   by_cases hlt:k<xs.length
   ·obtain ⟨x,hx⟩:∃ x,xs[k]? = some x:=⟨_,List.getElem?_eq_getElem hlt⟩
    have hle:=HLE.out k x hx
    have hkl:x.kids.length≤(deepL x.kids).length:=deep_kids_le x.kids
    have HT:=Lib.hid (deepL_snocD hx)
    obtain ⟨g,o,vC,vP,vA,vT,vK,rfl,hgg,hgS,-,-,⟨d0,d1,d2,d3,d4,d5,d6,d7,d8,d9⟩,-,⟨hC,iC⟩,⟨hPP,iP⟩,⟨hA,iA⟩,hTT,hK⟩:=Lns.at_ (HV.out.kept HKR.out) k x hx
    clear hx
    obtain ⟨kind,text,dest,title,id,cls,prs,args,cits,kids⟩:=x
    simp only [Inl.kind,Inl.text,Inl.dest,Inl.title,Inl.id,Inl.cls,Inl.prs,Inl.args,Inl.cits,Inl.kids] at d0 d1 d2 d3 d4 hC hPP hA hTT hK iC iP iA HT hle hkl
    obtain ⟨aC,cC,rfl,lC⟩:=hC.shape
    obtain ⟨aP,cP,rfl,lP⟩:=hPP.shape
    obtain ⟨aA,cA,rfl,lA⟩:=hA.shape
    obtain ⟨aT,cT,rfl,lT⟩:=hTT.form
    obtain ⟨aK,cK,rfl,lK⟩:=hK.form
    obtain ⟨ar,cr,rfl,hcr,hmr⟩:=HGR.out.form
    obtain ⟨os,HOS⟩:∃ os,Hid (deepL (xs.take k)=os):=⟨_,rfl⟩
    rw [HOS.out] at HGR HT hle
    rw [HOS.out]
    have hwr:w.heap.size≤wr.heap.size:=HKR.out.size
    have hka:=kept_alloc wr (.cells #[.int .i64 kind,.string (bs text),.string (bs dest),.string (bs title),.string (bs id),.slice aC cls.length cC,.slice aP prs.length cP,.slice aA args.length cA,.slice aT cits.length cT,.slice aK kids.length cK] 71)
    have hin:∀ g,S g→(S g∨w.heap.size≤g)∧(Value.slice ar os.length cr).ownBlock≠some g:=fun g q=>⟨.inl q,fun r=>by have h1:=(HGR.out.blk g r).1; have h2:=HSL.out g q; omega⟩
    have HY:=Lib.hid ((inlK n).sam (show InlK n (fun g=>(S g∨w.heap.size≤g)∧(Value.slice ar os.length cr).ownBlock≠some g) wr [.int .i64 kind,.string (bs text),.string (bs dest),.string (bs title),.string (bs id),.slice aC cls.length cC,.slice aP prs.length cP,.slice aA args.length cA,.slice aT cits.length cT,.slice aK kids.length cK] (Inl.mk kind text dest title id cls prs args cits kids) from ⟨_,_,_,_,_,rfl,⟨hC,iC.mono (fun g _ _ q=>hin g q)⟩,⟨hPP,iP.mono (fun g _ _ q=>hin g q)⟩,⟨hA,iA.mono (fun g _ _ q=>hin g q)⟩,hTT.sam (fun _ _ _=>rfl) (fun g _ q=>hin g q),hK.mono (fun g _ q=>hin g q)⟩) (Sam.kept hka) (fun _ _ q=>q))
    have HG1:=Lib.hid (HGR.out.kept (inlK n) hka)
    have HROW:=Lib.hid (Blk.new wr 71 #[.int .i64 kind,.string (bs text),.string (bs dest),.string (bs title),.string (bs id),.slice aC cls.length cC,.slice aP prs.length cP,.slice aA args.length cA,.slice aT cits.length cT,.slice aK kids.length cK])
    have HK1:=Lib.hid (HKR.out.trans hka)
    have HKD:=Lib.hid hK
    have HKW:=Lib.hid hka
    have hb1:w.heap.size≤(wr.alloc (.cells #[.int .i64 kind,.string (bs text),.string (bs dest),.string (bs title),.string (bs id),.slice aC cls.length cC,.slice aP prs.length cP,.slice aA args.length cA,.slice aT cits.length cT,.slice aK kids.length cK] 71)).heap.size:=HK1.out.size
    clear hC hPP hA hTT hK iC iP iA hin hka HGR HOS
    go_wp2_with (at_builtin; refine holdQ ?_)
    refine Lib.hid ?_
    refine wpList_append_out (inlK n) rfl (.tmp 11) (.tmp 16) 57 rfl i0 _ 192 Tryz.underlying57 hi hz0 hz1 hz2 rfl (by omega) (by rfl) HG1.out wr.heap.size _ (Inl.mk kind text dest title id cls prs args cits kids) (by rfl) (fun j u hu=>HROW.out.cell j u (by rw [← Array.getElem?_toList]; exact hu)) rfl HY.out (by unfold maxLen; omega) (by omega) hb1 _ rfl ?_
    intro g7 c7' w2 hout7 hgrow7 hat7 hlt7
    have HO2:=Lib.hid hout7
    have HK2:Hid (Kept w w2):=HK1.out.trans' ((Only.grown hgrow7).below HK1.out.size (fun i q=>(HG1.out.blk i q.symm).1))
    have hkid:Lns S n w2 (.slice aK kids.length cK) kids:=(HKD.out.kept HKW.out).step (Only.grown hgrow7) (fun g _ q r=>by have h1:=(HG1.out.blk g r.symm).1; have h2:=HSL.out g q; omega) (fun _ _ q=>q)
    have e10:w2.cell? ⟨g,o+k * 10+9,none⟩=some (.slice aK kids.length cK):=by
     have h1:(wr.alloc (.cells #[.int .i64 kind,.string (bs text),.string (bs dest),.string (bs title),.string (bs id),.slice aC cls.length cC,.slice aP prs.length cP,.slice aA args.length cA,.slice aT cits.length cT,.slice aK kids.length cK] 71)).cell? ⟨g,o+k * 10+9,none⟩=some (.slice aK kids.length cK):=by rw [(Only.of_kept (S:=fun _=>False) HKW.out).cell g (o+k * 10+9) hgg (fun q=>q)]; exact d9
     rw [(Only.grown hgrow7).cell g (o+k * 10+9) (Nat.lt_of_lt_of_le hgg HKW.out.size) (fun r=>by have h1:=(HG1.out.blk g r.symm).1; have h2:=HSL.out g hgS; omega)]
     exact h1
    have hg2:g<w2.heap.size:=Nat.lt_of_lt_of_le (Nat.lt_of_lt_of_le hgg HKW.out.size) (Only.grown hgrow7).size
    have HIX:=Lib.hid (HIH.out kids (.slice aK kids.length cK) w2 (fun g q=>Nat.lt_of_lt_of_le (HSL.out g q) HK2.out.size) hkid (by omega) (by omega))
    have hown:∀ i,(Value.slice (some ⟨g7,0,none⟩) (os.length+1) c7').ownBlock=some i→w.heap.size≤i∧i<w2.heap.size:=fun i q=>HO2.out.blk i q
    have HOWN:=Lib.hid hown
    clear hout7 hgrow7 hat7 hlt7 HY HROW HG1 HK1 HKD HKW hkid hown hb1 d0 d1 d2 d3 d4 d5 d6 d7 d8 d9
    go_wp2_with fail
    refine HIX.out.mono ?_
    rintro e w3 ⟨v3,rfl,hb3,hk3⟩
    obtain ⟨a3,c3,rfl,l3⟩:=hb3.form
    have HO3:=Lib.hid (HO2.out.kept (inlK n) hk3)
    have HK3:=Lib.hid (HK2.out.trans hk3)
    have HBR:Hid (RowR (fun g=>S g∨w2.heap.size≤g) 10 (InlK n (fun g=>S g∨w2.heap.size≤g) w3) w3 (.slice a3 (deepL kids).length c3) (deepL kids)):=hb3.up
    have HSS:Hid (∀ i,i<w3.heap.size→(S i∨w2.heap.size≤i)→(S i∨w.heap.size≤i)∧(Value.slice (some ⟨g7,0,none⟩) (os.length+1) c7').ownBlock≠some i):=fun i _ q=>by
     have hz:=HK2.out.size
     rcases q with q | q
     ·exact ⟨.inl q,fun r=>by have h1:=(HOWN.out i r).1; have h2:=HSL.out i q; omega⟩
     ·exact ⟨.inr (by omega),fun r=>by have h1:=(HOWN.out i r).2; omega⟩
    have hbz:w.heap.size≤w3.heap.size:=HK3.out.size
    have hol:(os ++ [Inl.mk kind text dest title id cls prs args cits kids]).length=os.length+1:=by simp
    have HOL:=Lib.hid hol
    clear hb3 hk3 HO2 HK2 HIX e10 hol
    go_wp2_with (at_builtin; refine holdQ ?_)
    refine Lib.hid ?_
    refine wpList_append_row (inlK n) rfl (.tmp 18) (.tmp 24) 57 rfl i0 _ 192 Tryz.underlying57 hi hz0 hz1 hz2 rfl (by omega) (by rfl) HO3.out _ (by rfl) HBR.out HSS.out (by rw [HOL.out]; unfold maxLen; omega) (by rw [HOL.out]; omega) hbz ?_
    intro v7 w17 hout9 hgrow9
    obtain ⟨a7,c7,rfl,-,-⟩:=hout9.form
    have HO7:Hid (OutG (InlK n) 10 (fun g=>S g∨w.heap.size≤g) w.heap.size 71 w17 (.slice a7 (os ++ [Inl.mk kind text dest title id cls prs args cits kids] ++ deepL kids).length c7) (deepL (xs.take (k+1)))):=by rw [HT.out]; exact hout9
    have HK17:Hid (Kept w w17):=HK3.out.trans' ((Only.grown hgrow9).below HK3.out.size (fun i q=>(HO3.out.blk i q.symm).1))
    clear hout9 hgrow9 HO3 HBR HSS HK3
    go_wp2_with fail
    go_roundw
    case rel=>exact ⟨k+1,by omega,by go_num,(by have h:=HO7.out; rw [show (os ++ [Inl.mk kind text dest title id cls prs args cits kids] ++ deepL kids).length=os.length+((deepL kids).length+1) by rw [List.length_append,HOL.out]; omega] at h; exact h),HK17.out⟩
    case measure=>simp [intOf]; omega
   ·obtain rfl:k=xs.length:=by omega
    obtain ⟨ar,cr,rfl,hcr,hmr⟩:=HGR.out.form
    have HF:=Lib.hid (HFIN.out _ wr HGR.out HKR.out)
    clear HGR HKR
    go_wp2_with fail
    (try go_ret)
    exact HF.out
end Go.Proofs.YtmcoomlkbgiboaaGreatDoor
