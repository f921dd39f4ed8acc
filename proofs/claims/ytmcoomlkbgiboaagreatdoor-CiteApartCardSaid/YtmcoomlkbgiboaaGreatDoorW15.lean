/- Plain words on the words of a line, letter by letter; letters from a place on; rules letter by letter. No condition. -/
import Derived.Test.YtmcoomlkbgiboaaGreatDoorW14
import Derived.Test.YtmcoomlkbgiboaaGreatDoorW11
import Derived.Test.YtmcoomlkbgiboaaGreatDoorW08
import Derived.Deep.AppendLies
import Derived.Deep.RegionHeld3
import Derived.Deep.Upon
set_option linter.all false
set_option maxRecDepth 100000
namespace Go.Proofs.YtmcoomlkbgiboaaGreatDoor
open Go.RowKit
def zsL (l:Bs) (k:Nat):List Int:=(zbN (bs l) k).map (·.1)
theorem zlJ (l:Bs):zsL l 0=zeO l:=rfl
theorem zoG (l:Bs) (k:Nat) (h:k<l.length):zsL l k=(dec (bs l) k).1 :: zsL l (k+(dec (bs l) k).2.toNat):=by
 unfold zsL;rw[zdY (bs l) k (by simpa using h)];rfl
theorem zh8 (l:Bs) (k:Nat) (h:¬ k<l.length):zsL l k=[]:=by
 unfold zsL;rw[zdD (bs l) k (by simpa using h)];rfl
theorem zh9 (l:Bs):(zeO l).length<=l.length:=by
 unfold zeO zfV;rw[List.length_map];have:=zsE (bs l) 0;simpa using this
def zyK (xs:List Int):List Value:=xs.map fun x=>.int .i64 x
theorem ziA (xs:List Int) (x:Int):zyK (xs ++ [x])=zyK xs ++ [.int .i64 x]:=by simp [zyK]
theorem zDt (xs:List Int) (j:Nat) (x:Int) (h:xs[j]? = some x):(zyK xs)[j]? = some (.int .i64 x):=by simp [zyK,h]
def Ints (w:World) (v:Value) (xs:List Int):Prop :=
 ∃ a c,v=.slice a xs.length c/\xs.length<=c/\(0<xs.length->∃ g o,a=some ⟨g,o,none⟩/\g<w.heap.size/\∀ j x,xs[j]? = some x->w.cell? ⟨g,o+j,none⟩=some (.int .i64 x))
theorem Ints.kept {w w':World} {v:Value} {xs:List Int} (h:Ints w v xs) (k:Kept w w'):Ints w' v xs:=by
 obtain ⟨a,c,hv,hc,h3⟩:=h;refine ⟨a,c,hv,hc,fun q=>?_⟩;obtain ⟨g,o,ha,hg,hcell⟩:=h3 q;exact ⟨g,o,ha,Nat.lt_of_lt_of_le hg k.size,fun j x hx=>(k.cell (p:=⟨g,o+j,none⟩) hg).trans (hcell j x hx)⟩
theorem Ints.own {w:World} {base:Nat} {e:TypeId} {v:Value} {xs:List Int} (h:w.ownsRow base e 1 v xs.length (zyK xs)):Ints w v xs:=by
 obtain ⟨a,c,hv,hc,_,h3⟩:=za1 h;refine ⟨a,c,hv,hc,fun q=>?_⟩;obtain ⟨g,ha,_,hg,hcell⟩:=h3 q;exact ⟨g,0,ha,hg,fun j x hx=>by rw[Nat.zero_add];exact hcell j _ (zDt xs j x hx)⟩
theorem Ints.only {S:Nat->Prop} {w w':World} {v:Value} {xs:List Int} (h:Ints w v xs) (k:Only S w w') (hS:∀ g,S g->w.heap.size<=g\/∀ o n c,v≠.slice (some ⟨g,o,none⟩) n c):Ints w' v xs:=by
 obtain ⟨a,c,hv,hc,h3⟩:=h;refine ⟨a,c,hv,hc,fun q=>?_⟩;obtain ⟨g,o,ha,hg,hcell⟩:=h3 q;have hs:¬ S g:=fun z=>by
  rcases hS g z with h1|h1
  ·omega
  ·exact h1 o _ _ (by rw[hv,ha])
 exact ⟨g,o,ha,Nat.lt_of_lt_of_le hg k.size,fun j x hx=>(k.cell g _ hg hs).trans (hcell j x hx)⟩
def ze3 (xs:List Int):List (Int × Value):=xs.foldl (fun es x=>if (zdA es x).isSome=true then es else es ++ [(x,.bool true)]) []
theorem ziB (es:List (Int × Value)) (x:Int) (v:Value) (k:Int):zdA (es ++ [(x,v)]) k=match zdA es k with
  | some u=>some u
  | none=>if x=k then some v else none:=by
 unfold zdA;rw[List.find?_append];cases h:es.find? (fun e=>e.1 == k) with
 | some e=>rfl
 | none =>
  simp only[Option.none_or,Option.map_none];by_cases q:x=k
  ·subst q;simp
  ·rw[if_neg q];simp [q]
theorem ze4 (xs:List Int) (x:Int):ze3 (xs ++ [x])=if (zdA (ze3 xs) x).isSome=true then ze3 xs else ze3 xs ++ [(x,.bool true)]:=by
 unfold ze3;rw[List.foldl_append];rfl
theorem zkJ (k:Int):∀ (n:Nat) (xs:List Int),xs.length=n->zdA (ze3 xs) k=if xs.contains k=true then some (.bool true) else none
 | 0,xs,h=>by obtain rfl:=List.length_eq_zero_iff.1 h;rfl
 | n+1,xs,h=>by
  obtain ⟨o,x,rfl⟩:∃ o x,xs=o ++ [x]:=⟨xs.dropLast,xs.getLast (by intro q;subst q;cases h),(List.dropLast_concat_getLast _).symm⟩;have ih:=zkJ k n o (by simpa using h);have ihx:=zkJ x n o (by simpa using h);rw[ze4,ihx];have hc:(o ++ [x]).contains k=(o.contains k || x == k):=by
   rw[Bool.eq_iff_iff];simp only[List.contains_iff_mem,List.mem_append,List.mem_singleton,Bool.or_eq_true,beq_iff_eq];exact ⟨fun h=>h.elim .inl (fun e=>.inr e.symm),fun h=>h.elim .inl (fun e=>.inr e.symm)⟩
  rw[hc];by_cases q:o.contains x=true
  ·rw[if_pos q,if_pos (show (some (Value.bool true)).isSome=true from rfl),ih];by_cases e:x=k
   ·subst e;rw[q];rfl
   ·have:(x == k)=false:=(by simpa using e);rw[this,Bool.or_false]
  ·rw[if_neg q,if_neg (show ¬ (none:Option Value).isSome=true by simp),ziB,ih];by_cases q2:o.contains k=true
   ·rw[if_pos q2,q2];rfl
   ·rw[if_neg q2];have q3:o.contains k=false:=(by simpa using q2);rw[q3,Bool.false_or];by_cases e:x=k
    ·subst e;simp
    ·have:(x == k)=false:=(by simpa using e);rw[if_neg e,this];simp
theorem zgQ (xs:List Int) (k:Int):(zdA (ze3 xs) k).getD (.bool false)=.bool (xs.contains k):=by
 rw[zkJ k _ xs rfl];cases xs.contains k <;> rfl
theorem zsM (xs:List Int) (k:Int):zdA (ze3 xs) k=if xs.contains k=true then some (.bool true) else none:=zkJ k _ xs rfl
def zm0 (i:Nat) (es:List (Int × Value)) (xs:List Int):List (Int × Value):=xs.foldl (fun es x=>if (zdA es x).isSome=true then es else es ++ [(x,.int .i64 i)]) es
def zw8:List Bs->Nat->List (Int × Value)->List (Int × Value)
 | [],_,es=>es
 | s :: ss,i,es=>zw8 ss (i+1) (zm0 i es (zeO s))
def zE2 (c:ColT):List (Int × Value):=zw8 c.order 0 []
theorem zyL (i:Nat) (es:List (Int × Value)) (xs:List Int) (x:Int):zm0 i es (xs ++ [x])=if (zdA (zm0 i es xs) x).isSome=true then zm0 i es xs else zm0 i es xs ++ [(x,.int .i64 i)]:=by
 unfold zm0;rw[List.foldl_append];rfl
theorem zp7 (i:Nat) (k:Int):∀ (xs:List Int) (es:List (Int × Value)),zdA (zm0 i es xs) k=match zdA es k with
  | some u=>some u
  | none=>if xs.contains k=true then some (.int .i64 i) else none
 | [],es=>by
  show zdA es k=_;cases zdA es k <;> rfl
 | x :: xs,es=>by
  show zdA (zm0 i (if (zdA es x).isSome=true then es else es ++ [(x,.int .i64 i)]) xs) k=_;rw[zp7 i k xs];have hc:(x :: xs).contains k=((x == k) || xs.contains k):=by
   rw[Bool.eq_iff_iff];simp only[List.contains_iff_mem,List.mem_cons,Bool.or_eq_true,beq_iff_eq];exact ⟨fun h=>h.elim (fun e=>.inl e.symm) .inr,fun h=>h.elim (fun e=>.inl e.symm) .inr⟩
  rw[hc];by_cases q:(zdA es x).isSome=true
  ·rw[if_pos q];cases hk:zdA es k with
   | some u=>rfl
   | none =>
    simp only;have:(x == k)=false:=by
     rw[beq_eq_false_iff_ne];rintro rfl;rw[hk] at q;cases q
    rw[this,Bool.false_or]
  ·rw[if_neg q,ziB];cases hk:zdA es k with
   | some u=>rfl
   | none =>
    simp only;by_cases e:x=k
    ·subst e;simp
    ·have:(x == k)=false:=(by simpa using e);rw[if_neg e,this,Bool.false_or]
theorem zp8 (k:Int):∀ (ss:List Bs) (i:Nat) (es:List (Int × Value)),zdA (zw8 ss i es) k=match zdA es k with
  | some u=>some u
  | none=>(ss.findIdx? fun s=>(zeO s).contains k).map fun j=>.int .i64 ((i+j:Nat):Int)
 | [],i,es=>by
  show zdA es k=_;cases zdA es k <;> rfl
 | s :: ss,i,es=>by
  show zdA (zw8 ss (i+1) (zm0 i es (zeO s))) k=_;rw[zp8 k ss (i+1),zp7];cases hk:zdA es k with
  | some u=>rfl
  | none =>
   simp only;rw[List.findIdx?_cons];by_cases q:(zeO s).contains k=true
   ·rw[if_pos q,if_pos q];rfl
   ·rw[if_neg q,if_neg q];simp only[Option.map_map];congr 1;funext j;simp only[Function.comp_apply];congr 2;omega
theorem zDu (c:ColT) (k:Int):zdA (zE2 c) k=(zDs c k).map fun j=>.int .i64 (j:Int):=by
 unfold zE2 zDs;rw[zp8];simp [zdA]
theorem zp9:∀ (ss:List Bs) (s:Bs) (i:Nat) (es:List (Int × Value)),zw8 (ss ++ [s]) i es=zm0 (i+ss.length) (zw8 ss i es) (zeO s)
 | [],s,i,es=>rfl
 | t :: ss,s,i,es=>by
  show zw8 (ss ++ [s]) (i+1) _=_;rw[zp9 ss s (i+1),List.length_cons,show i+1+ss.length=i+(ss.length+1) from by omega];rfl
def ValsR (w:World) (es:List (Int × Value)) (c:ColT):Prop:=∀ k,match znH c k with
 | none=>zdA es k=none
 | some ys=>∃ v,zdA es k=some v/\Ints w v ys
theorem ValsR.nil (w:World) (o:List Bs) (i:Bs):ValsR w [] ⟨[],o,i⟩:=fun _=>rfl
theorem ValsR.kept {w w':World} {es:List (Int × Value)} {c:ColT} (h:ValsR w es c) (k:Kept w w'):ValsR w' es c:=fun x=>by
 have:=h x;cases hv:znH c x with
 | none=>rw[hv] at this;exact this
 | some ys =>
  rw[hv] at this;obtain ⟨v,h1,h2⟩:=this;exact ⟨v,h1,h2.kept k⟩
theorem zlK (rs:List Pr) (p:Pr) (o:List Bs) (i:Bs) (x:Int):znH ⟨rs ++ [p],o,i⟩ x=match znH ⟨rs,o,i⟩ x with
  | some ys=>some ys
  | none=>if zeO p.1=[x] then some (zeO p.2) else none:=by
 unfold znH;simp only[List.find?_append];cases h:rs.find? (fun p=>zeO p.1 == [x]) with
 | some e=>rfl
 | none =>
  simp only[Option.none_or,Option.map_none];by_cases q:zeO p.1=[x]
  ·rw[if_pos q];simp [q]
  ·rw[if_neg q];simp [q]
theorem Tryz.infoInt:(Tryz.prog.info? 3).map (fun i=>(i.zero,i.size,i.bytes))=some (some (.int .i64 0),1,8):=by kernel_rfl
theorem zoH (g o j:Nat):(⟨g,o,none⟩:Addr).add j=⟨g,o+j,none⟩:=by unfold Addr.add;split <;> simp_all
theorem zlL {P:Program} (w:World) {ops:Array Oper} {o:Oper} {a:Act} {K:Act->World->Prop} {Q:Exit->Act->World->Prop} {E:Prop} (hgd:o.guard=none) (s x:Operand) (t:TypeId)
  (ho:o.op=.call { callee:=.builtin .append,args:=#[s,x],argTypes:=#[t,t] })
  (base:Nat) (e:TypeId) (i:TypeInfo) (z:Value) (size bytes:Nat) (ht:P.underlying t=some (.slice e)) (hi:P.info? e=some i) (hz:i.zero=some z)
  (hsize:i.size=size) (hby:i.bytes=bytes) (hzs:z.cells.size=size) (hsz:0<size)
  (v:Value) (n:Nat) (xs:List Value) (hs:a.eval s=v) (hown:w.ownsRow base e size v n xs)
  (a':Option Addr) (m c:Nat) (news:List Value) (hx:a.eval x=.slice a' m c) (hl:news.length=m * size)
  (hsrc:0<m->∃ g o2,a'=some ⟨g,o2,none⟩/\∀ j u,news[j]? = some u->w.cell? ⟨g,o2+j,none⟩=some u) (h1:∀ u∈news,u.oneCell'=true)
  (h63:n+m<=maxLen) (hbytes:(n+m) * bytes<=140737488355328) (hbase:base<=w.heap.size)
  (h:∀ v' w',w'.ownsRow base e size v' (n+m) (xs ++ news)->w.grownBy w' v.ownBlock->K (a.put o.dst v') w') :
  if Region.wanted o (yielded ops a.tmps)=true then Oper.wp P o a w K Q else E:=by
 have hw:Region.wanted o (yielded ops a.tmps)=true:=(by simp [Region.wanted,hgd]);rw[if_pos hw];by_cases hq:0<m
 ·obtain ⟨g,o2,rfl,hc⟩:=hsrc hq;refine wp_append_lies w s x t ho base e i z size bytes ht hi hz hsize hby hzs hsz v n xs hs hown ⟨g,o2,none⟩ m c news hx hl (fun j u hu=>by rw[zoH];exact hc j u hu) h1 hq h63 hbytes hbase w.heap.size rfl ?_;intro g' cap w' h1 h2 _ _;exact h _ _ h1 h2
 ·obtain rfl:m=0:=(by omega);obtain rfl:news=[]:=List.length_eq_zero_iff.1 (by omega);have hown':=hown;obtain ⟨a2,c2,rfl,hle,_,_⟩:=za1 hown;have hsrc:Src P i.size t (.slice a' 0 c) 0 [] w:=by
   refine ⟨.inl ⟨_,ht⟩,fun w'=>?_,?_,?_,by simp,by simp⟩
   ·simp [Builtin.lenOf]
   ·cases a' <;> simp [Builtin.firstCells,loadCells,loadCellsFrom]
   ·cases a' <;> simp [Builtin.firstCells,loadCells,loadCellsFrom]
  have hr:=run_append_nothing (P:=P) w t t o.type e i ht hi a2 n c2 hle (.slice a' 0 c) hsrc;unfold Oper.wp execOp;simp only[ho,resolve,invoke,builtin,Sem.run_bind,Sem.run_pure,Result.andThen_ok,List.map_toArray,List.map_cons,List.map_nil,hs,hx];rw[hr];refine h _ _ ?_ (World.grownBy.refl _ _);rw[List.append_nil];exact hown'
theorem zjU (xs:List Bs):∀ u∈zaG xs,u.oneCell'=true:=by
 intro u hu;unfold zaG at hu;rw[List.mem_map] at hu;obtain ⟨x,_,rfl⟩:=hu;rfl
theorem ziC (xs:List Bs) (j:Nat) (u:Value) (h:(zaG xs)[j]? = some u):∃ x,xs[j]? = some x/\u=.string (bs x):=by
 unfold zaG at h;rw[List.getElem?_map] at h;cases hx:xs[j]? with
 | none=>rw[hx] at h;cases h
 | some x=>rw[hx] at h;exact ⟨x,rfl,by simpa using h.symm⟩
theorem zj3 (w:World) {ops:Array Oper} {o:Oper} {a:Act} {K:Act->World->Prop} {Q:Exit->Act->World->Prop} {E:Prop} (hgd:o.guard=none) (s x:Operand)
  (ho:o.op=.call { callee:=.builtin .append,args:=#[s,x],argTypes:=#[29,29] })
  (base:Nat) (v:Value) (ps:List Bs) (hs:a.eval s=v) (hown:w.ownsRow base 9 1 v ps.length (zaG ps)) (u:Value) (qs:List Bs) (hx:a.eval x=u) (hu:Strs w u qs)
  (hb:ps.length+qs.length<=5000000) (hbase:base<=w.heap.size)
  (h:∀ v' w',w'.ownsRow base 9 1 v' (ps ++ qs).length (zaG (ps ++ qs))->w.grownBy w' v.ownBlock->K (a.put o.dst v') w') :
  if Region.wanted o (yielded ops a.tmps)=true then Oper.wp Tryz.prog o a w K Q else E:=by
 obtain ⟨i0,hi,hz0,hz1,hz2⟩:=info_parts Tryz.infoStr;obtain ⟨a',c',rfl,hc,h3⟩:=hu;refine zlL w hgd s x 29 ho base 9 i0 (.string ⟨#[]⟩) 1 16 Tryz.underlying29 hi hz0 hz1 hz2 rfl (by decide) v ps.length (zaG ps) hs hown a' qs.length c' (zaG qs) hx (by simp [zf4]) (fun hq=>?_) (zjU qs) (by unfold maxLen;omega) (by omega) hbase (fun v' w' h1 h2=>h v' w' ?_ h2)
 ·obtain ⟨g,o2,rfl,_,hcell⟩:=h3 hq;refine ⟨g,o2,rfl,fun j u hu=>?_⟩;obtain ⟨y,hy,rfl⟩:=ziC qs j u hu;exact hcell j y hy
 ·rw[List.length_append,show zaG (ps ++ qs)=zaG ps ++ zaG qs from by simp [zaG]];exact h1
def pcC (ps:List Pc):List Value:=ps.flatMap fun q=>[.string (bs q.txt),.bool q.fld,.int .i64 (q.grp:Int)]
theorem zBp (ps:List Pc) (q:Pc):pcC (ps ++ [q])=pcC ps ++ [.string (bs q.txt),.bool q.fld,.int .i64 (q.grp:Int)]:=by simp [pcC]
theorem zEy (ps:List Pc) (j:Nat) (q:Pc) (h:ps[j]? = some q):(pcC ps)[j * 3]? = some (.string (bs q.txt))/\(pcC ps)[j * 3+1]? = some (.bool q.fld)/\(pcC ps)[j * 3+2]? = some (.int .i64 (q.grp:Int)):=by
 induction ps generalizing j with
 | nil=>cases h
 | cons p ps ih =>
  have e:pcC (p :: ps)=[.string (bs p.txt),.bool p.fld,.int .i64 (p.grp:Int)] ++ pcC ps:=(by simp [pcC]);rw[e];cases j with
  | zero =>
   simp at h;subst h;exact ⟨rfl,rfl,rfl⟩
  | succ j =>
   obtain ⟨h0,h1,h2⟩:=ih j (by simpa using h);rw[List.getElem?_append_right (by simp;omega),List.getElem?_append_right (by simp;omega),List.getElem?_append_right (by simp;omega)];simp only[List.length_cons,List.length_nil];rw[show (j+1) * 3 - (0+1+1+1)=j * 3 by omega,show (j+1) * 3+1 - (0+1+1+1)=j * 3+1 by omega,show (j+1) * 3+2 - (0+1+1+1)=j * 3+2 by omega];exact ⟨h0,h1,h2⟩
def Pcs (w:World) (v:Value) (ps:List Pc):Prop :=
 ∃ a c,v=.slice a ps.length c/\ps.length<=c/\(0<ps.length->∃ g o,a=some ⟨g,o,none⟩/\g<w.heap.size/\∀ j q,ps[j]? = some q ->
  w.cell? ⟨g,o+j * 3,none⟩=some (.string (bs q.txt))/\w.cell? ⟨g,o+j * 3+1,none⟩=some (.bool q.fld)/\w.cell? ⟨g,o+j * 3+2,none⟩=some (.int .i64 (q.grp:Int)))
theorem Pcs.kept {w w':World} {v:Value} {ps:List Pc} (h:Pcs w v ps) (k:Kept w w'):Pcs w' v ps:=by
 obtain ⟨a,c,hv,hc,h3⟩:=h;refine ⟨a,c,hv,hc,fun q=>?_⟩;obtain ⟨g,o,ha,hg,hcell⟩:=h3 q;refine ⟨g,o,ha,Nat.lt_of_lt_of_le hg k.size,fun j x hx=>?_⟩;obtain ⟨c0,c1,c2⟩:=hcell j x hx;exact ⟨(k.cell (p:=⟨g,o+j * 3,none⟩) hg).trans c0,(k.cell (p:=⟨g,o+j * 3+1,none⟩) hg).trans c1,(k.cell (p:=⟨g,o+j * 3+2,none⟩) hg).trans c2⟩
theorem Pcs.own {w:World} {base:Nat} {e:TypeId} {v:Value} {ps:List Pc} (h:w.ownsRow base e 3 v ps.length (pcC ps)):Pcs w v ps:=by
 obtain ⟨a,c,hv,hc,_,h3⟩:=za1 h;refine ⟨a,c,hv,hc,fun q=>?_⟩;obtain ⟨g,ha,_,hg,hcell⟩:=h3 q;refine ⟨g,0,ha,hg,fun j x hx=>?_⟩;obtain ⟨c0,c1,c2⟩:=zEy ps j x hx;simp only[Nat.zero_add];exact ⟨hcell _ _ c0,hcell _ _ c1,hcell _ _ c2⟩
theorem Pcs.nil (w:World):Pcs w (.slice none 0 0) []:=⟨none,0,rfl,Nat.le_refl _,fun q=>absurd q (by simp)⟩
theorem Pcs.form {w:World} {v:Value} {ps:List Pc} (h:Pcs w v ps):∃ a c,v=.slice a ps.length c/\ps.length<=c:=by
 obtain ⟨a,c,hv,hc,_⟩:=h;exact ⟨a,c,hv,hc⟩
theorem Pcs.cell_of {w:World} {a:Option Addr} {n c:Nat} {ps:List Pc} (h:Pcs w (.slice a n c) ps) (k:Nat) (q:Pc) (hx:ps[k]? = some q) :
  ∃ g o,a=some ⟨g,o,none⟩/\g<w.heap.size/\w.cell? ⟨g,o+k * 3,none⟩=some (.string (bs q.txt))/\w.cell? ⟨g,o+k * 3+1,none⟩=some (.bool q.fld)/\w.cell? ⟨g,o+k * 3+2,none⟩=some (.int .i64 (q.grp:Int)):=by
 obtain ⟨a',c',hv,hc,h3⟩:=h;obtain ⟨rfl,rfl,rfl⟩:=Value.slice.inj hv;obtain ⟨hk,_⟩:=List.getElem?_eq_some_iff.1 hx;obtain ⟨g,o,ha,hg,hcell⟩:=h3 (by omega);obtain ⟨c0,c1,c2⟩:=hcell k q hx;exact ⟨g,o,ha,hg,c0,c1,c2⟩
theorem Tryz.infoPc:(Tryz.prog.info? 118).map (fun i=>(i.zero,i.size,i.bytes))=some (some (.agg #[.string ⟨#[]⟩,.bool false,.int .i64 0]),3,32):=by kernel_rfl
theorem zdS (w:World) {ops:Array Oper} {rest:List Oper} {o:Oper} {a:Act} {Q:Exit->Act->World->Prop} (hgd:o.guard=none) (s x:Operand)
  (ho:o.op=.call { callee:=.builtin .append,args:=#[s,x],argTypes:=#[111,111] })
  (base:Nat) (v:Value) (ps:List Pc) (hs:a.eval s=v) (hown:w.ownsRow base 118 3 v ps.length (pcC ps)) (q:Pc) (g:Nat) (hx:a.eval x=.slice (some ⟨g,0,none⟩) 1 1)
  (hb:Blk w g 118 #[.string (bs q.txt),.bool q.fld,.int .i64 (q.grp:Int)]) (hl:ps.length<=1000000) (hbase:base<=w.heap.size)
  (h:∀ v' w',w'.ownsRow base 118 3 v' (ps ++ [q]).length (pcC (ps ++ [q]))->w.grownBy w' v.ownBlock->wpList Tryz.prog ops Q rest (a.put o.dst v') w') :
  wpList Tryz.prog ops Q (o :: rest) a w:=by
 obtain ⟨i0,hi,hz0,hz1,hz2⟩:=info_parts Tryz.infoPc;refine wpList_append_lies w hgd s x 111 ho base 118 i0 (.agg #[.string ⟨#[]⟩,.bool false,.int .i64 0]) 3 32 Tryz.underlying111 hi hz0 hz1 hz2 rfl (by decide) v ps.length (pcC ps) hs hown ⟨g,0,none⟩ 1 1 [.string (bs q.txt),.bool q.fld,.int .i64 (q.grp:Int)] hx rfl (fun j u hu=>?_) (fun u hu=>?_) (by decide) (by unfold maxLen;omega) (by omega) hbase w.heap.size rfl (fun g' cap w' h1 h2 _ _=>h _ w' ?_ h2)
 ·rw[zoH,Nat.zero_add]
  match j with
  | 0=>cases hu;exact hb.cell 0 _ rfl
  | 1=>cases hu;exact hb.cell 1 _ rfl
  | 2=>cases hu;exact hb.cell 2 _ rfl
  | j+3=>simp at hu
 ·simp at hu;rcases hu with rfl|rfl|rfl <;> rfl
 ·rw[zBp,List.length_append];exact h1
end Go.Proofs.YtmcoomlkbgiboaaGreatDoor
