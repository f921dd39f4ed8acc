/- Tables of a collation in memory: slices of whole numbers, sets, groups, values. No condition. -/
import Derived.Test.YtmcoomlkbgiboaaGreatDoorU11
import Derived.Test.YtmcoomlkbgiboaaGreatDoorU14
import Derived.Test.YtmcoomlkbgiboaaGreatDoorU07
import Derived.Deep.AppendLies
import Derived.Deep.RegionHeld3
import Derived.Deep.Upon
set_option linter.all false
set_option maxRecDepth 100000
set_option maxHeartbeats 6400000
namespace Go.Proofs.YtmcoomlkbgiboaaGreatDoor
open Go.RowKit
def zyD (xs:List Int):List Value:=xs.map fun x=>.int .i64 x
theorem ziC (xs:List Int) (x:Int):zyD (xs ++ [x])=zyD xs ++ [.int .i64 x]:=by simp [zyD]
theorem zDk (xs:List Int) (j:Nat) (x:Int) (h:xs[j]? = some x):(zyD xs)[j]? = some (.int .i64 x):=by simp [zyD,h]
def Ints (w:World) (v:Value) (xs:List Int):Prop :=
 ∃ a c,v=.slice a xs.length c/\xs.length<=c/\(0<xs.length->∃ g o,a=some ⟨g,o,none⟩/\g<w.heap.size/\∀ j x,xs[j]? = some x->w.cell? ⟨g,o+j,none⟩=some (.int .i64 x))
theorem Ints.kept {w w':World} {v:Value} {xs:List Int} (h:Ints w v xs) (k:Kept w w'):Ints w' v xs:=by
 obtain ⟨a,c,hv,hc,h3⟩:=h;refine ⟨a,c,hv,hc,fun q=>?_⟩;obtain ⟨g,o,ha,hg,hcell⟩:=h3 q;exact ⟨g,o,ha,Nat.lt_of_lt_of_le hg k.size,fun j x hx=>(k.cell (p:=⟨g,o+j,none⟩) hg).trans (hcell j x hx)⟩
theorem Ints.own {w:World} {base:Nat} {e:TypeId} {v:Value} {xs:List Int} (h:w.ownsRow base e 1 v xs.length (zyD xs)):Ints w v xs:=by
 obtain ⟨a,c,hv,hc,_,h3⟩:=za1 h;refine ⟨a,c,hv,hc,fun q=>?_⟩;obtain ⟨g,ha,_,hg,hcell⟩:=h3 q;exact ⟨g,0,ha,hg,fun j x hx=>by rw[Nat.zero_add];exact hcell j _ (zDk xs j x hx)⟩
theorem Ints.only {S:Nat->Prop} {w w':World} {v:Value} {xs:List Int} (h:Ints w v xs) (k:Only S w w') (hS:∀ g,S g->w.heap.size<=g\/∀ o n c,v≠.slice (some ⟨g,o,none⟩) n c):Ints w' v xs:=by
 obtain ⟨a,c,hv,hc,h3⟩:=h;refine ⟨a,c,hv,hc,fun q=>?_⟩;obtain ⟨g,o,ha,hg,hcell⟩:=h3 q;have hs:¬ S g:=fun z=>by
  rcases hS g z with h1|h1
  ·omega
  ·exact h1 o _ _ (by rw[hv,ha])
 exact ⟨g,o,ha,Nat.lt_of_lt_of_le hg k.size,fun j x hx=>(k.cell g _ hg hs).trans (hcell j x hx)⟩
def ze4 (xs:List Int):List (Int × Value):=xs.foldl (fun es x=>if (zdG es x).isSome=true then es else es ++ [(x,.bool true)]) []
theorem ziD (es:List (Int × Value)) (x:Int) (v:Value) (k:Int):zdG (es ++ [(x,v)]) k=match zdG es k with
  | some u=>some u
  | none=>if x=k then some v else none:=by
 unfold zdG;rw[List.find?_append];cases h:es.find? (fun e=>e.1 == k) with
 | some e=>rfl
 | none =>
  simp only[Option.none_or,Option.map_none];by_cases q:x=k
  ·subst q;simp
  ·rw[if_neg q];simp [q]
theorem ze5 (xs:List Int) (x:Int):ze4 (xs ++ [x])=if (zdG (ze4 xs) x).isSome=true then ze4 xs else ze4 xs ++ [(x,.bool true)]:=by
 unfold ze4;rw[List.foldl_append];rfl
theorem zkN (k:Int):∀ (n:Nat) (xs:List Int),xs.length=n->zdG (ze4 xs) k=if xs.contains k=true then some (.bool true) else none
 | 0,xs,h=>by obtain rfl:=List.length_eq_zero_iff.1 h;rfl
 | n+1,xs,h=>by
  obtain ⟨o,x,rfl⟩:∃ o x,xs=o ++ [x]:=⟨xs.dropLast,xs.getLast (by intro q;subst q;cases h),(List.dropLast_concat_getLast _).symm⟩;have ih:=zkN k n o (by simpa using h);have ihx:=zkN x n o (by simpa using h);rw[ze5,ihx];have hc:(o ++ [x]).contains k=(o.contains k || x == k):=by
   rw[Bool.eq_iff_iff];simp only[List.contains_iff_mem,List.mem_append,List.mem_singleton,Bool.or_eq_true,beq_iff_eq];exact ⟨fun h=>h.elim .inl (fun e=>.inr e.symm),fun h=>h.elim .inl (fun e=>.inr e.symm)⟩
  rw[hc];by_cases q:o.contains x=true
  ·rw[if_pos q,if_pos (show (some (Value.bool true)).isSome=true from rfl),ih];by_cases e:x=k
   ·subst e;rw[q];rfl
   ·have:(x == k)=false:=(by simpa using e);rw[this,Bool.or_false]
  ·rw[if_neg q,if_neg (show ¬ (none:Option Value).isSome=true by simp),ziD,ih];by_cases q2:o.contains k=true
   ·rw[if_pos q2,q2];rfl
   ·rw[if_neg q2];have q3:o.contains k=false:=(by simpa using q2);rw[q3,Bool.false_or];by_cases e:x=k
    ·subst e;simp
    ·have:(x == k)=false:=(by simpa using e);rw[if_neg e,this];simp
theorem zgV (xs:List Int) (k:Int):(zdG (ze4 xs) k).getD (.bool false)=.bool (xs.contains k):=by
 rw[zkN k _ xs rfl];cases xs.contains k <;> rfl
theorem zsR (xs:List Int) (k:Int):zdG (ze4 xs) k=if xs.contains k=true then some (.bool true) else none:=zkN k _ xs rfl
def zm1 (i:Nat) (es:List (Int × Value)) (xs:List Int):List (Int × Value):=xs.foldl (fun es x=>if (zdG es x).isSome=true then es else es ++ [(x,.int .i64 i)]) es
def zwY:List Bs->Nat->List (Int × Value)->List (Int × Value)
 | [],_,es=>es
 | s :: ss,i,es=>zwY ss (i+1) (zm1 i es (zeV s))
def zE1 (c:ColT):List (Int × Value):=zwY c.order 0 []
theorem zyE (i:Nat) (es:List (Int × Value)) (xs:List Int) (x:Int):zm1 i es (xs ++ [x])=if (zdG (zm1 i es xs) x).isSome=true then zm1 i es xs else zm1 i es xs ++ [(x,.int .i64 i)]:=by
 unfold zm1;rw[List.foldl_append];rfl
theorem zqN (i:Nat) (k:Int):∀ (xs:List Int) (es:List (Int × Value)),zdG (zm1 i es xs) k=match zdG es k with
  | some u=>some u
  | none=>if xs.contains k=true then some (.int .i64 i) else none
 | [],es=>by
  show zdG es k=_;cases zdG es k <;> rfl
 | x :: xs,es=>by
  show zdG (zm1 i (if (zdG es x).isSome=true then es else es ++ [(x,.int .i64 i)]) xs) k=_;rw[zqN i k xs];have hc:(x :: xs).contains k=((x == k) || xs.contains k):=by
   rw[Bool.eq_iff_iff];simp only[List.contains_iff_mem,List.mem_cons,Bool.or_eq_true,beq_iff_eq];exact ⟨fun h=>h.elim (fun e=>.inl e.symm) .inr,fun h=>h.elim (fun e=>.inl e.symm) .inr⟩
  rw[hc];by_cases q:(zdG es x).isSome=true
  ·rw[if_pos q];cases hk:zdG es k with
   | some u=>rfl
   | none =>
    simp only;have:(x == k)=false:=by
     rw[beq_eq_false_iff_ne];rintro rfl;rw[hk] at q;cases q
    rw[this,Bool.false_or]
  ·rw[if_neg q,ziD];cases hk:zdG es k with
   | some u=>rfl
   | none =>
    simp only;by_cases e:x=k
    ·subst e;simp
    ·have:(x == k)=false:=(by simpa using e);rw[if_neg e,this,Bool.false_or]
theorem zqO (k:Int):∀ (ss:List Bs) (i:Nat) (es:List (Int × Value)),zdG (zwY ss i es) k=match zdG es k with
  | some u=>some u
  | none=>(ss.findIdx? fun s=>(zeV s).contains k).map fun j=>.int .i64 ((i+j:Nat):Int)
 | [],i,es=>by
  show zdG es k=_;cases zdG es k <;> rfl
 | s :: ss,i,es=>by
  show zdG (zwY ss (i+1) (zm1 i es (zeV s))) k=_;rw[zqO k ss (i+1),zqN];cases hk:zdG es k with
  | some u=>rfl
  | none =>
   simp only;rw[List.findIdx?_cons];by_cases q:(zeV s).contains k=true
   ·rw[if_pos q,if_pos q];rfl
   ·rw[if_neg q,if_neg q];simp only[Option.map_map];congr 1;funext j;simp only[Function.comp_apply];congr 2;omega
theorem zDl (c:ColT) (k:Int):zdG (zE1 c) k=(zDj c k).map fun j=>.int .i64 (j:Int):=by
 unfold zE1 zDj;rw[zqO];simp [zdG]
theorem zqP:∀ (ss:List Bs) (s:Bs) (i:Nat) (es:List (Int × Value)),zwY (ss ++ [s]) i es=zm1 (i+ss.length) (zwY ss i es) (zeV s)
 | [],s,i,es=>rfl
 | t :: ss,s,i,es=>by
  show zwY (ss ++ [s]) (i+1) _=_;rw[zqP ss s (i+1),List.length_cons,show i+1+ss.length=i+(ss.length+1) from by omega];rfl
def ValsR (w:World) (es:List (Int × Value)) (c:ColT):Prop:=∀ k,match znJ c k with
 | none=>zdG es k=none
 | some ys=>∃ v,zdG es k=some v/\Ints w v ys
theorem ValsR.nil (w:World) (o:List Bs) (i:Bs):ValsR w [] ⟨[],o,i⟩:=fun _=>rfl
theorem ValsR.kept {w w':World} {es:List (Int × Value)} {c:ColT} (h:ValsR w es c) (k:Kept w w'):ValsR w' es c:=fun x=>by
 have:=h x;cases hv:znJ c x with
 | none=>rw[hv] at this;exact this
 | some ys =>
  rw[hv] at this;obtain ⟨v,h1,h2⟩:=this;exact ⟨v,h1,h2.kept k⟩
theorem zlK (rs:List Pr) (p:Pr) (o:List Bs) (i:Bs) (x:Int):znJ ⟨rs ++ [p],o,i⟩ x=match znJ ⟨rs,o,i⟩ x with
  | some ys=>some ys
  | none=>if zeV p.1=[x] then some (zeV p.2) else none:=by
 unfold znJ;simp only[List.find?_append];cases h:rs.find? (fun p=>zeV p.1 == [x]) with
 | some e=>rfl
 | none =>
  simp only[Option.none_or,Option.map_none];by_cases q:zeV p.1=[x]
  ·rw[if_pos q];simp [q]
  ·rw[if_neg q];simp [q]
theorem Tryz.infoInt:(Tryz.prog.info? 3).map (fun i=>(i.zero,i.size,i.bytes))=some (some (.int .i64 0),1,8):=by kernel_rfl
theorem zoM (g o j:Nat):(⟨g,o,none⟩:Addr).add j=⟨g,o+j,none⟩:=by unfold Addr.add;split <;> simp_all
theorem zlL {P:Program} (w:World) {ops:Array Oper} {o:Oper} {a:Act} {K:Act->World->Prop} {Q:Exit->Act->World->Prop} {E:Prop} (hgd:o.guard=none) (s x:Operand) (t:TypeId)
  (ho:o.op=.call { callee:=.builtin .append,args:=#[s,x],argTypes:=#[t,t] })
  (base:Nat) (e:TypeId) (i:TypeInfo) (z:Value) (size bytes:Nat) (ht:P.underlying t=some (.slice e)) (hi:P.info? e=some i) (hz:i.zero=some z)
  (hsize:i.size=size) (hby:i.bytes=bytes) (hzs:z.cells.size=size) (hsz:0<size)
  (v:Value) (n:Nat) (xs:List Value) (hs:a.eval s=v) (hown:w.ownsRow base e size v n xs)
  (a':Option Addr) (m c:Nat) (news:List Value) (hx:a.eval x=.slice a' m c) (hl:news.length=m * size)
  (hsrc:0<m->∃ g o2,a'=some ⟨g,o2,none⟩/\∀ j u,news[j]? = some u->w.cell? ⟨g,o2+j,none⟩=some u) (h1:∀ u∈news,u.oneCell'=true)
  (h63:n+m<=maxLen) (hbytes:(n+m) * bytes<=140737488355328) (hbase:base<=w.heap.size)
  (h:∀ v' w',w'.ownsRow base e size v' (n+m) (xs ++ news)->w.grownBy w' v.ownBlock->K (a.put o.dst v') w') :
  if Region.wanted o (yielded ops a.tmps)=true then Oper.wp P o a w K Q else E:=by
 have hw:Region.wanted o (yielded ops a.tmps)=true:=(by simp [Region.wanted,hgd]);rw[if_pos hw];by_cases hq:0<m
 ·obtain ⟨g,o2,rfl,hc⟩:=hsrc hq;refine wp_append_lies w s x t ho base e i z size bytes ht hi hz hsize hby hzs hsz v n xs hs hown ⟨g,o2,none⟩ m c news hx hl (fun j u hu=>by rw[zoM];exact hc j u hu) h1 hq h63 hbytes hbase w.heap.size rfl ?_;intro g' cap w' h1 h2 _ _;exact h _ _ h1 h2
 ·obtain rfl:m=0:=(by omega);obtain rfl:news=[]:=List.length_eq_zero_iff.1 (by omega);have hown':=hown;obtain ⟨a2,c2,rfl,hle,_,_⟩:=za1 hown;have hsrc:Src P i.size t (.slice a' 0 c) 0 [] w:=by
   refine ⟨.inl ⟨_,ht⟩,fun w'=>?_,?_,?_,by simp,by simp⟩
   ·simp [Builtin.lenOf]
   ·cases a' <;> simp [Builtin.firstCells,loadCells,loadCellsFrom]
   ·cases a' <;> simp [Builtin.firstCells,loadCells,loadCellsFrom]
  have hr:=run_append_nothing (P:=P) w t t o.type e i ht hi a2 n c2 hle (.slice a' 0 c) hsrc;unfold Oper.wp execOp;simp only[ho,resolve,invoke,builtin,Sem.run_bind,Sem.run_pure,Result.andThen_ok,List.map_toArray,List.map_cons,List.map_nil,hs,hx];rw[hr];refine h _ _ ?_ (World.grownBy.refl _ _);rw[List.append_nil];exact hown'
theorem zj0 (xs:List Bs):∀ u∈zaH xs,u.oneCell'=true:=by
 intro u hu;unfold zaH at hu;rw[List.mem_map] at hu;obtain ⟨x,_,rfl⟩:=hu;rfl
theorem ziE (xs:List Bs) (j:Nat) (u:Value) (h:(zaH xs)[j]? = some u):∃ x,xs[j]? = some x/\u=.string (bs x):=by
 unfold zaH at h;rw[List.getElem?_map] at h;cases hx:xs[j]? with
 | none=>rw[hx] at h;cases h
 | some x=>rw[hx] at h;exact ⟨x,rfl,by simpa using h.symm⟩
theorem zj9 (w:World) {ops:Array Oper} {o:Oper} {a:Act} {K:Act->World->Prop} {Q:Exit->Act->World->Prop} {E:Prop} (hgd:o.guard=none) (s x:Operand)
  (ho:o.op=.call { callee:=.builtin .append,args:=#[s,x],argTypes:=#[29,29] })
  (base:Nat) (v:Value) (ps:List Bs) (hs:a.eval s=v) (hown:w.ownsRow base 9 1 v ps.length (zaH ps)) (u:Value) (qs:List Bs) (hx:a.eval x=u) (hu:Strs w u qs)
  (hb:ps.length+qs.length<=5000000) (hbase:base<=w.heap.size)
  (h:∀ v' w',w'.ownsRow base 9 1 v' (ps ++ qs).length (zaH (ps ++ qs))->w.grownBy w' v.ownBlock->K (a.put o.dst v') w') :
  if Region.wanted o (yielded ops a.tmps)=true then Oper.wp Tryz.prog o a w K Q else E:=by
 obtain ⟨i0,hi,hz0,hz1,hz2⟩:=info_parts Tryz.infoStr;obtain ⟨a',c',rfl,hc,h3⟩:=hu;refine zlL w hgd s x 29 ho base 9 i0 (.string ⟨#[]⟩) 1 16 Tryz.underlying29 hi hz0 hz1 hz2 rfl (by decide) v ps.length (zaH ps) hs hown a' qs.length c' (zaH qs) hx (by simp [zgC]) (fun hq=>?_) (zj0 qs) (by unfold maxLen;omega) (by omega) hbase (fun v' w' h1 h2=>h v' w' ?_ h2)
 ·obtain ⟨g,o2,rfl,_,hcell⟩:=h3 hq;refine ⟨g,o2,rfl,fun j u hu=>?_⟩;obtain ⟨y,hy,rfl⟩:=ziE qs j u hu;exact hcell j y hy
 ·rw[List.length_append,show zaH (ps ++ qs)=zaH ps ++ zaH qs from by simp [zaH]];exact h1
def pcC (ps:List Pc):List Value:=ps.flatMap fun q=>[.string (bs q.txt),.bool q.fld,.int .i64 (q.grp:Int)]
theorem zBd (ps:List Pc) (q:Pc):pcC (ps ++ [q])=pcC ps ++ [.string (bs q.txt),.bool q.fld,.int .i64 (q.grp:Int)]:=by simp [pcC]
theorem zEu (ps:List Pc) (j:Nat) (q:Pc) (h:ps[j]? = some q):(pcC ps)[j * 3]? = some (.string (bs q.txt))/\(pcC ps)[j * 3+1]? = some (.bool q.fld)/\(pcC ps)[j * 3+2]? = some (.int .i64 (q.grp:Int)):=by
 induction ps generalizing j with
 | nil=>cases h
 | cons p ps ih =>
  have e:pcC (p :: ps)=[.string (bs p.txt),.bool p.fld,.int .i64 (p.grp:Int)] ++ pcC ps:=(by simp [pcC]);rw[e];cases j with
  | zero =>
   simp at h;subst h;exact ⟨rfl,rfl,rfl⟩
  | succ j =>
   obtain ⟨h0,h1,h2⟩:=ih j (by simpa using h);rw[List.getElem?_append_right (by simp;omega),List.getElem?_append_right (by simp;omega),List.getElem?_append_right (by simp;omega)];simp only[List.length_cons,List.length_nil];rw[show (j+1) * 3 - (0+1+1+1)=j * 3 by omega,show (j+1) * 3+1 - (0+1+1+1)=j * 3+1 by omega,show (j+1) * 3+2 - (0+1+1+1)=j * 3+2 by omega];exact ⟨h0,h1,h2⟩
def Pcs (w:World) (v:Value) (ps:List Pc):Prop :=
 ∃ a c,v=.slice a ps.length c/\ps.length<=c/\(0<ps.length->∃ g o,a=some ⟨g,o,none⟩/\g<w.heap.size/\∀ j q,ps[j]? = some q ->
  w.cell? ⟨g,o+j * 3,none⟩=some (.string (bs q.txt))/\w.cell? ⟨g,o+j * 3+1,none⟩=some (.bool q.fld)/\w.cell? ⟨g,o+j * 3+2,none⟩=some (.int .i64 (q.grp:Int)))
theorem Pcs.kept {w w':World} {v:Value} {ps:List Pc} (h:Pcs w v ps) (k:Kept w w'):Pcs w' v ps:=by
 obtain ⟨a,c,hv,hc,h3⟩:=h;refine ⟨a,c,hv,hc,fun q=>?_⟩;obtain ⟨g,o,ha,hg,hcell⟩:=h3 q;refine ⟨g,o,ha,Nat.lt_of_lt_of_le hg k.size,fun j x hx=>?_⟩;obtain ⟨c0,c1,c2⟩:=hcell j x hx;exact ⟨(k.cell (p:=⟨g,o+j * 3,none⟩) hg).trans c0,(k.cell (p:=⟨g,o+j * 3+1,none⟩) hg).trans c1,(k.cell (p:=⟨g,o+j * 3+2,none⟩) hg).trans c2⟩
theorem Pcs.own {w:World} {base:Nat} {e:TypeId} {v:Value} {ps:List Pc} (h:w.ownsRow base e 3 v ps.length (pcC ps)):Pcs w v ps:=by
 obtain ⟨a,c,hv,hc,_,h3⟩:=za1 h;refine ⟨a,c,hv,hc,fun q=>?_⟩;obtain ⟨g,ha,_,hg,hcell⟩:=h3 q;refine ⟨g,0,ha,hg,fun j x hx=>?_⟩;obtain ⟨c0,c1,c2⟩:=zEu ps j x hx;simp only[Nat.zero_add];exact ⟨hcell _ _ c0,hcell _ _ c1,hcell _ _ c2⟩
theorem Pcs.nil (w:World):Pcs w (.slice none 0 0) []:=⟨none,0,rfl,Nat.le_refl _,fun q=>absurd q (by simp)⟩
theorem Pcs.form {w:World} {v:Value} {ps:List Pc} (h:Pcs w v ps):∃ a c,v=.slice a ps.length c/\ps.length<=c:=by
 obtain ⟨a,c,hv,hc,_⟩:=h;exact ⟨a,c,hv,hc⟩
theorem Pcs.cell_of {w:World} {a:Option Addr} {n c:Nat} {ps:List Pc} (h:Pcs w (.slice a n c) ps) (k:Nat) (q:Pc) (hx:ps[k]? = some q) :
  ∃ g o,a=some ⟨g,o,none⟩/\g<w.heap.size/\w.cell? ⟨g,o+k * 3,none⟩=some (.string (bs q.txt))/\w.cell? ⟨g,o+k * 3+1,none⟩=some (.bool q.fld)/\w.cell? ⟨g,o+k * 3+2,none⟩=some (.int .i64 (q.grp:Int)):=by
 obtain ⟨a',c',hv,hc,h3⟩:=h;obtain ⟨rfl,rfl,rfl⟩:=Value.slice.inj hv;obtain ⟨hk,_⟩:=List.getElem?_eq_some_iff.1 hx;obtain ⟨g,o,ha,hg,hcell⟩:=h3 (by omega);obtain ⟨c0,c1,c2⟩:=hcell k q hx;exact ⟨g,o,ha,hg,c0,c1,c2⟩
theorem Tryz.infoPc:(Tryz.prog.info? 118).map (fun i=>(i.zero,i.size,i.bytes))=some (some (.agg #[.string ⟨#[]⟩,.bool false,.int .i64 0]),3,32):=by kernel_rfl
theorem zdX (w:World) {ops:Array Oper} {rest:List Oper} {o:Oper} {a:Act} {Q:Exit->Act->World->Prop} (hgd:o.guard=none) (s x:Operand)
  (ho:o.op=.call { callee:=.builtin .append,args:=#[s,x],argTypes:=#[111,111] })
  (base:Nat) (v:Value) (ps:List Pc) (hs:a.eval s=v) (hown:w.ownsRow base 118 3 v ps.length (pcC ps)) (q:Pc) (g:Nat) (hx:a.eval x=.slice (some ⟨g,0,none⟩) 1 1)
  (hb:Blk w g 118 #[.string (bs q.txt),.bool q.fld,.int .i64 (q.grp:Int)]) (hl:ps.length<=1000000) (hbase:base<=w.heap.size)
  (h:∀ v' w',w'.ownsRow base 118 3 v' (ps ++ [q]).length (pcC (ps ++ [q]))->w.grownBy w' v.ownBlock->wpList Tryz.prog ops Q rest (a.put o.dst v') w') :
  wpList Tryz.prog ops Q (o :: rest) a w:=by
 obtain ⟨i0,hi,hz0,hz1,hz2⟩:=info_parts Tryz.infoPc;refine wpList_append_lies w hgd s x 111 ho base 118 i0 (.agg #[.string ⟨#[]⟩,.bool false,.int .i64 0]) 3 32 Tryz.underlying111 hi hz0 hz1 hz2 rfl (by decide) v ps.length (pcC ps) hs hown ⟨g,0,none⟩ 1 1 [.string (bs q.txt),.bool q.fld,.int .i64 (q.grp:Int)] hx rfl (fun j u hu=>?_) (fun u hu=>?_) (by decide) (by unfold maxLen;omega) (by omega) hbase w.heap.size rfl (fun g' cap w' h1 h2 _ _=>h _ w' ?_ h2)
 ·rw[zoM,Nat.zero_add]
  match j with
  | 0=>cases hu;exact hb.cell 0 _ rfl
  | 1=>cases hu;exact hb.cell 1 _ rfl
  | 2=>cases hu;exact hb.cell 2 _ rfl
  | j+3=>simp at hu
 ·simp at hu;rcases hu with rfl|rfl|rfl <;> rfl
 ·rw[zBd,List.length_append];exact h1
def zEi:Value->Nat
 | .string s=>s.size
 | _=>0
def SplitP (t:Bs) (w:World) (e:Ending) (w':World):Prop:=∃ v,e=.returned (.tuple #[v,.int .i64 (zcW t)])/\Pcs w' v (zeK t)/\Kept w w'
theorem SplitP.bad {t:Bs} {w w':World} (h:zcW t≠0) (k:Kept w w'):SplitP t w (.returned (.tuple #[.slice none 0 0,.int .i64 (zcW t)])) w' :=
 ⟨_,rfl,by unfold zeK;rw[if_neg h];exact Pcs.nil _,k⟩
theorem zyF {t:Bs} (h:lnB t=true) (hs:zkM t=none):zcW t=5:=by unfold zcW;rw[h,hs];rfl
theorem zDm {t:Bs} {l:List Pc} (h:lnB t=true) (hs:zkM t=some l):zcW t=0/\zeK t=l:=by
 have e:zcW t=0:=(by unfold zcW;rw[h,hs];rfl);exact ⟨e,by unfold zeK;rw[if_pos e,hs];rfl⟩
theorem zqQ {t:Bs} (h:lnB t=false):zcW t=17:=by unfold zcW;rw[h];rfl
theorem SplitP.five {t:Bs} {w w':World} (hl:lnB t=true) (hs:zkM t=none) (k:Kept w w'):SplitP t w (.returned (.tuple #[.slice none 0 0,.int .i64 5])) w':=by
 have e:=zyF hl hs;have h:zcW t≠0:=(by rw[e];decide);have:=SplitP.bad h k
 rwa [e] at this
theorem zBe:Ascii zcA:=by
 intro b hb;unfold zcA at hb;simp at hb;rcases hb with rfl|rfl|rfl|rfl <;> decide
theorem zyG (ps:List Pc) (q:Pc) (o:Option (List Pc)):(o.map fun l=>q :: l).map (ps ++ ·)=o.map ((ps ++ [q]) ++ ·):=by
 cases o <;> simp
theorem zgW (t:Bs) (w:World) (hg:Gnd w) (ht:t.length<=100000):Calls Tryz.prog 60 #[.string (bs t)] w (SplitP t w):=by
 have HG:=Hd hg;have HLN:=Hd (fun w=>zh9 t w (by omega));clear hg;by_cases hline:lnB t=true
 case neg =>
  have hline':lnB t=false:=(by simpa using hline);rw[hline'] at HLN;have HB:Hid (∀ w',Kept w w'->SplitP t w (.returned (.tuple #[.slice none 0 0,.int .i64 17])) w'):=fun w' k=>by
   have h:=SplitP.bad (t:=t) (w:=w) (w':=w') (by rw[zqQ hline'];decide) k
   rwa [zqQ hline'] at h
  generalize hP:SplitP t w=P at *;clear hP;go_enter Tryz.func60,Tryz.ntmps60;go_wp2_with fail;refine (HLN.out _).mono ?_;rintro e w1 ⟨rfl,hk1⟩;have HK1:=Hd hk1;clear hk1;go_wp2_with fail;exact HB.out _ HK1.out
 rw[hline] at HLN;have H5:Hid (zkM t=none->∀ w',Kept w w'->SplitP t w (.returned (.tuple #[.slice none 0 0,.int .i64 5])) w'):=fun h w' k=>SplitP.five hline h k;have HOK:Hid (∀ l,zkM t=some l->∀ w' v,Pcs w' v l->Kept w w'->SplitP t w (.returned (.tuple #[v,.int .i64 0])) w'):=fun l h w' v hp k=>by
  obtain ⟨e1,e2⟩:=zDm hline h;refine ⟨v,by rw[e1],by rw[e2];exact hp,k⟩
 have H0:Hid (zkM t=(zhK (t.length+1) t 0 0).map (([]:List Pc) ++ ·)):=by
  show _=_;unfold zkM;cases zhK (t.length+1) t 0 0 <;> simp
 generalize hP:SplitP t w=P at *;generalize zkM t=S at *;clear hP hline;go_enter Tryz.func60,Tryz.ntmps60;go_wp2_with fail;refine (HLN.out _).mono ?_;rintro e w1 ⟨rfl,hk1⟩;have HK1:=Hd hk1;clear hk1 HLN;go_wp2_with fail;go_loopw [4,5,6,7] (fun ov gv hv rv wr=>∃ (f:Nat) (ps:List Pc) (G g:Nat) (r:Bs),gv=.int .i64 G/\hv=.int .i64 g/\rv=.string (bs r)/\Hid (wr.ownsRow w.heap.size 118 3 ov ps.length (pcC ps))/\r.length<f/\ps.length+r.length<=t.length/\G+r.length<=t.length/\g<=G/\Hid (S=(zhK f r G g).map (ps ++ ·))/\Hid (Kept w wr)) (fun _ _ _ rv _=>zEi rv)
 case atStart=>exact ⟨t.length+1,[],0,0,t,rfl,rfl,rfl,World.ownsRow_nil _ _ _ _,by omega,by simp,by omega,by omega,H0.out,HK1.out⟩
 case round =>
  obtain ⟨f,ps,G,g,r,rfl,rfl,rfl,HOWN,hf,hps,hG,hgG,HSP,HKR⟩:=hrel;obtain ⟨f,rfl⟩:∃ f',f=f'+1:=⟨f - 1,by omega⟩;cases r with
  | nil =>
   rw[zd8] at HSP;by_cases hg0:g=0
   ·subst hg0;have HS:Hid (S=some ps):=by
     show _=_;rw[HSP.out,if_pos rfl];simp
    have HP:=Hd (Pcs.own HOWN.out);go_wp2_with fail;exact HOK.out ps HS.out _ _ HP.out HKR.out
   ·have HS:Hid (S=none):=by
     show _=_;rw[HSP.out,if_neg hg0];rfl
    have hg0':((g:Int) == 0)=false:=(by rw[beq_eq_false_iff_ne];omega);go_wp2_with fail;exact H5.out HS.out _ HKR.out
  | cons b r =>
   have hrl:r.length+1=(b :: r).length:=rfl;obtain ⟨L,HLL⟩:∃ L,Hid (b :: r=L):=⟨_,rfl⟩;have hLL:=HLL.out;rw[hLL] at hrl hf hps hG;have hne:(L == ([]:Bs))=false:=(by rw[<- hLL];rfl);have hLp:0<L.length:=(by omega);have HIX:=Hd (fun w=>zBc L zcA w zBe (by decide) (by decide) (by omega));unfold IdxPost at HIX;cases hin:zbN zcA b with
   | false =>
    rw[zfQ _ _ _ hin,hLL,zyG] at HSP;have hrun:=ztU (r:=r) hin;rw[hLL] at hrun ⊢;clear HLL hLL hin;rcases hrun with ⟨hi,hn⟩|⟨k,hi,hn,hk0,hkl⟩
    ·rw[hi] at HIX;rw[hn,hrl] at HSP;obtain ⟨X,HXX⟩:∃ X,Hid (L.take L.length=X):=⟨_,rfl⟩;obtain ⟨Y,HYY⟩:∃ Y,Hid (L.drop L.length=Y):=⟨_,rfl⟩;have hyl:Y.length=0:=(by rw[<- HYY.out];simp);have hxl:X.length<=L.length:=(by rw[<- HXX.out];simp);have u1:=zkH (P:=Tryz.prog) (t:=9) Tryz.underlying9 L L.length (Nat.le_refl _) (L.length:Int) rfl X HXX.out;have u2:=zfM (P:=Tryz.prog) (t:=9) Tryz.underlying9 L L.length (Nat.le_refl _) (L.length:Int) rfl Y HYY.out;rw[HXX.out,HYY.out] at HSP;clear hi hn;go_wp2_with fail;refine (HIX.out _).mono ?_;rintro e w3 ⟨rfl,hk3⟩;have HKW:=Hd (HKR.out.trans hk3);have HOW:=Hd (zaU HOWN.out hk3);clear hk3 HIX HOWN HKR;have HBQ:=Hd (Blk.new w3 118 #[.string (bs X),.bool false,.int .i64 (g:Int)]);have hszW:w.heap.size<=w3.heap.size:=HKW.out.size;go_wp2_with (at_builtin;refine zdX _ rfl _ _ rfl w.heap.size _ ps rfl (HOW.out.alloc _) ⟨X,false,g⟩ w3.heap.size rfl HBQ.out (by omega) (by simp;omega) ?_;intro v5 w5 hown5 hgrow5;rw[List.length_append,List.length_singleton] at hown5;have HO5:=Hd hown5;have HK5:=Hd ((HKW.out.trans (zaA w3 _)).trans' (zaG (HOW.out.alloc _) hgrow5 (by simp;omega)));obtain ⟨a5,c5,rfl,-,-,-⟩:=za1 hown5;clear hown5 hgrow5);go_roundw
     case rel=>exact ⟨f,ps ++ [Pc.mk X false g],G,g,Y,rfl,rfl,rfl,(by show World.ownsRow _ _ _ _ _ _ _;rw[List.length_append];exact HO5.out),by omega,by rw[List.length_append,List.length_singleton];omega,by omega,by omega,HSP.out,HK5.out⟩
     case measure=>simp [zEi];omega
    ·rw[hi] at HIX;rw[hn] at HSP;obtain ⟨X,HXX⟩:∃ X,Hid (L.take k=X):=⟨_,rfl⟩;obtain ⟨Y,HYY⟩:∃ Y,Hid (L.drop k=Y):=⟨_,rfl⟩;have hyl:Y.length=L.length - k:=(by rw[<- HYY.out];simp);have hxl:X.length<=L.length:=(by rw[<- HXX.out,List.length_take];omega);have u1:=zkH (P:=Tryz.prog) (t:=9) Tryz.underlying9 L k (by omega) (k:Int) rfl X HXX.out;have u2:=zfM (P:=Tryz.prog) (t:=9) Tryz.underlying9 L k (by omega) (k:Int) rfl Y HYY.out;have hk1:((k:Int) == 0)=false:=(by rw[beq_eq_false_iff_ne];omega);have hk2:¬ (k:Int)<0:=(by omega);rw[HXX.out,HYY.out] at HSP;clear hi hn;go_wp2_with fail;refine (HIX.out _).mono ?_;rintro e w3 ⟨rfl,hk3⟩;have HKW:=Hd (HKR.out.trans hk3);have HOW:=Hd (zaU HOWN.out hk3);clear hk3 HIX HOWN HKR;have HBQ:=Hd (Blk.new w3 118 #[.string (bs X),.bool false,.int .i64 (g:Int)]);have hszW:w.heap.size<=w3.heap.size:=HKW.out.size;go_wp2_with (at_builtin;refine zdX _ rfl _ _ rfl w.heap.size _ ps rfl (HOW.out.alloc _) ⟨X,false,g⟩ w3.heap.size rfl HBQ.out (by omega) (by simp;omega) ?_;intro v5 w5 hown5 hgrow5;rw[List.length_append,List.length_singleton] at hown5;have HO5:=Hd hown5;have HK5:=Hd ((HKW.out.trans (zaA w3 _)).trans' (zaG (HOW.out.alloc _) hgrow5 (by simp;omega)));obtain ⟨a5,c5,rfl,-,-,-⟩:=za1 hown5;clear hown5 hgrow5);go_roundw
     case rel=>exact ⟨f,ps ++ [Pc.mk X false g],G,g,Y,rfl,rfl,rfl,(by show World.ownsRow _ _ _ _ _ _ _;rw[List.length_append];exact HO5.out),by omega,by rw[List.length_append,List.length_singleton];omega,by omega,by omega,HSP.out,HK5.out⟩
     case measure=>simp [zEi];omega
   | true =>
    have hz:Lib.indexAny L zcA=0:=(by rw[<- hLL];exact zqM hin);rw[hz] at HIX;have i0:=zd3 (P:=Tryz.prog) (t:=9) Tryz.underlying9 L 0 hLp 0 rfl;have h8:at8 L 0=(b.toNat:Int):=(by rw[<- hLL];rfl);have u1:=zfM (P:=Tryz.prog) (t:=9) Tryz.underlying9 L 1 (by omega) 1 rfl r (by rw[<- hLL];rfl);have hb:=zcX hin;clear hin hz;rw[hLL];clear HLL hLL;rcases hb with rfl|rfl|rfl|rfl
    ·simp only[h8] at i0;rw[zgT] at HSP;have HCUT:=Hd (fun w h=>zxG r 125 w h (by omega));have HSMA:=Hd (fun x w (h:x.length<=1000000000)=>zi8 x [] 20 w h);clear h8;go_wp2_with fail;refine (HIX.out _).mono ?_;rintro e w3 ⟨rfl,hk3⟩;have HKW:=Hd (HKR.out.trans hk3);have HOW:=Hd (zaU HOWN.out hk3);have HGW:=Hd (HG.out.kept HKW.out);clear hk3 HIX HOWN HKR;by_cases hbf:zaP 125 r<r.length
     ·simp only[if_pos hbf] at HCUT;have hrl1:(r.take (zaP 125 r)).length<=r.length:=(by rw[List.length_take];omega);have hrl2:(r.drop (zaP 125 r+1)).length<=r.length - 1:=(by rw[List.length_drop];omega);generalize r.take (zaP 125 r)=X at *;generalize r.drop (zaP 125 r+1)=Y at *;have HSMB:=Hd (fun w=>HSMA.out X w (by omega));go_wp2_with fail;refine (HCUT.out _ HGW.out).mono ?_;rintro e w4 ⟨rfl,n4,rfl⟩;have HKW4:=Hd (HKW.out.trans (zaB w3 n4));have HOW4:=Hd (zaU HOW.out (zaB w3 n4));generalize w3.drewN n4=w4 at *;go_wp2_with fail;refine (HSMB.out _).mono ?_;rintro e w5 ⟨rfl,hk5⟩;have HKW:=Hd (HKW4.out.trans hk5);have HOW:=Hd (zaU HOW4.out hk5);clear hk5 HKW4 HOW4;cases hsb:za7 X 20 [] with
      | false =>
       have HS:Hid (S=none):=by
        show _=_;rw[HSP.out,hsb,if_neg (by simp)];rfl
       clear hsb;go_wp2_with fail;exact H5.out HS.out _ HKW.out
      | true =>
       rw[hsb,if_pos ⟨hbf,rfl⟩,zyG] at HSP;clear hsb HSMA HSMB HCUT;have HBQ:=Hd (Blk.new w5 118 #[.string (bs X),.bool true,.int .i64 (g:Int)]);have hszW:w.heap.size<=w5.heap.size:=HKW.out.size;go_wp2_with (at_builtin;refine zdX _ rfl _ _ rfl w.heap.size _ ps rfl (HOW.out.alloc _) ⟨X,true,g⟩ w5.heap.size rfl HBQ.out (by omega) (by simp;omega) ?_;intro v5 w9 hown5 hgrow9;rw[List.length_append,List.length_singleton] at hown5;have HO5:=Hd hown5;have HK5:=Hd ((HKW.out.trans (zaA w5 _)).trans' (zaG (HOW.out.alloc _) hgrow9 (by simp;omega)));obtain ⟨a5,c5,rfl,-,-,-⟩:=za1 hown5;clear hown5 hgrow9);go_roundw
       case rel=>exact ⟨f,ps ++ [Pc.mk X true g],G,g,Y,rfl,rfl,rfl,(by show World.ownsRow _ _ _ _ _ _ _;rw[List.length_append];exact HO5.out),by omega,by rw[List.length_append,List.length_singleton];omega,by omega,by omega,HSP.out,HK5.out⟩
       case measure=>simp [zEi];omega
     ·simp only[if_neg hbf] at HCUT;have HS:Hid (S=none):=by
       show _=_;rw[HSP.out,if_neg (fun q=>hbf q.1)];rfl
      go_wp2_with fail;refine (HCUT.out _ HGW.out).mono ?_;rintro e w4 ⟨rfl,n4,rfl⟩;have HKW4:=Hd (HKW.out.trans (zaB w3 n4));go_wp2_with fail;exact H5.out HS.out _ HKW4.out
    ·simp only[h8] at i0;rw[zgU] at HSP;have HS:Hid (S=none):=HSP.out;clear h8;go_wp2_with fail;refine (HIX.out _).mono ?_;rintro e w3 ⟨rfl,hk3⟩;have HKW:=Hd (HKR.out.trans hk3);clear hk3 HIX HOWN HKR;go_wp2_with fail;exact H5.out HS.out _ HKW.out
    ·simp only[h8] at i0;rw[ze2] at HSP;clear h8;by_cases hg0:g=0
     ·rw[if_pos hg0] at HSP;subst hg0;go_wp2_with fail;refine (HIX.out _).mono ?_;rintro e w3 ⟨rfl,hk3⟩;have HKW:=Hd (HKR.out.trans hk3);have HOW:=Hd (zaU HOWN.out hk3);clear hk3 HIX HOWN HKR;go_wp2_with fail;go_roundw
      case rel=>exact ⟨f,ps,G+1,G+1,r,by go_num,by go_num,rfl,HOW.out,by omega,by omega,by omega,by omega,HSP.out,HKW.out⟩
      case measure=>simp [zEi];omega
     ·rw[if_neg hg0] at HSP;have hg0':((g:Int) == 0)=false:=(by rw[beq_eq_false_iff_ne];omega);have HS:Hid (S=none):=HSP.out;go_wp2_with fail;refine (HIX.out _).mono ?_;rintro e w3 ⟨rfl,hk3⟩;have HKW:=Hd (HKR.out.trans hk3);clear hk3 HIX HOWN HKR;go_wp2_with fail;exact H5.out HS.out _ HKW.out
    ·simp only[h8] at i0;rw[ze3] at HSP;clear h8;by_cases hg0:g=0
     ·rw[if_pos hg0] at HSP;subst hg0;have HS:Hid (S=none):=HSP.out;go_wp2_with fail;refine (HIX.out _).mono ?_;rintro e w3 ⟨rfl,hk3⟩;have HKW:=Hd (HKR.out.trans hk3);clear hk3 HIX HOWN HKR;go_wp2_with fail;exact H5.out HS.out _ HKW.out
     ·rw[if_neg hg0] at HSP;have hg0':((g:Int) == 0)=false:=(by rw[beq_eq_false_iff_ne];omega);go_wp2_with fail;refine (HIX.out _).mono ?_;rintro e w3 ⟨rfl,hk3⟩;have HKW:=Hd (HKR.out.trans hk3);have HOW:=Hd (zaU HOWN.out hk3);clear hk3 HIX HOWN HKR;go_wp2_with fail;go_roundw
      case rel=>exact ⟨f,ps,G,0,r,rfl,rfl,rfl,HOW.out,by omega,by omega,by omega,by omega,HSP.out,HKW.out⟩
      case measure=>simp [zEi];omega
end Go.Proofs.YtmcoomlkbgiboaaGreatDoor
