/- Collations in plain Lean: letters, rules, errors, keys. No condition. -/
import Derived.Test.YtmcoomlkbgiboaaGreatDoorK05
import Derived.Test.YtmcoomlkbgiboaaGreatDoorK03
import Derived.Test.YtmcoomlkbgiboaaGreatDoorK06
import Derived.Test.YtmcoomlkbgiboaaGreatDoorK04
import Derived.Test.YtmcoomlkbgiboaaGreatDoorK01
import Derived.Deep.AppendLies
import Derived.Deep.RegionHeld3
import Derived.Deep.Upon

set_option linter.all false
namespace Go.Proofs.YtmcoomlkbgiboaaGreatDoor
open Go.RowKit

/-- The letters of a text. -/
def ptsL (l:Bs):List Int:=(points (bs l)).map (·.1)
structure ColT where
 ranks:List Pr
 order:List Bs
 ignore:Bs
/-- The index of the first element of Order with a letter. -/
def grpI (c:ColT) (x:Int):Option Nat:=c.order.findIdx? fun s=>(ptsL s).contains x
def rankI (c:ColT) (x:Int):Int:=if x=32 then 0 else match grpI c x with
 | some i=>(i:Int)+1
 | none=>(c.order.length:Int)+1+x
/-- The letters as which a letter is sorted. -/
def valI (c:ColT) (x:Int):Option (List Int):=(c.ranks.find? fun p=>ptsL p.1 == [x]).map fun p=>ptsL p.2
def keyI1 (c:ColT) (x:Int):List Int:=if (ptsL c.ignore).contains x=true then [] else match valI c x with
 | some v=>v.map (rankI c)
 | none=>[rankI c x]
def keyI (c:ColT) (s:Bs):List Int:=(ptsL s).flatMap (keyI1 c)
/-- How lists of numbers compare. -/
def cmpI:List Int→List Int→Int
 | [],[]=>0
 | [],_=>-1
 | _,[]=>1
 | x :: xs,y :: ys=>if x<y then -1 else if y<x then 1 else cmpI xs ys
def cmpB (a b:Bs):Int:=cmpI (a.map fun x=>(x.toNat:Int)) (b.map fun x=>(x.toNat:Int))
def cmpC (c:ColT) (a b:Bs):Int:=if cmpI (keyI c a) (keyI c b)≠0 then cmpI (keyI c a) (keyI c b) else cmpB a b
end Go.Proofs.YtmcoomlkbgiboaaGreatDoor

/- Plain words on the words of a line, letter by letter; letters from a place on; rules letter by letter. No condition. -/
set_option linter.all false
namespace Go.Proofs.YtmcoomlkbgiboaaGreatDoor
open Go.RowKit

/-- The letters from a place of a text on. -/
def ptsF (l:Bs) (k:Nat):List Int:=(pointsFrom (bs l) k).map (·.1)
theorem ptsF_zero (l:Bs):ptsF l 0=ptsL l:=rfl
theorem ptsF_in (l:Bs) (k:Nat) (h:k<l.length):ptsF l k=(dec (bs l) k).1 :: ptsF l (k+(dec (bs l) k).2.toNat):=by
 unfold ptsF
 rw [pointsFrom_in (bs l) k (by simpa using h)]; rfl
theorem ptsF_out (l:Bs) (k:Nat) (h:¬ k<l.length):ptsF l k=[]:=by
 unfold ptsF
 rw [pointsFrom_out (bs l) k (by simpa using h)]; rfl
theorem ptsL_len (l:Bs):(ptsL l).length≤l.length:=by
 unfold ptsL points
 rw [List.length_map]
 have:=pts_len (bs l) 0
 simpa using this
end Go.Proofs.YtmcoomlkbgiboaaGreatDoor

/- Tables of a collation in memory: slices of whole numbers, sets, groups, values. No condition. -/
set_option linter.all false
namespace Go.Proofs.YtmcoomlkbgiboaaGreatDoor
open Go.RowKit

def intC (xs:List Int):List Value:=xs.map fun x=>.int .i64 x
theorem intC_snoc (xs:List Int) (x:Int):intC (xs ++ [x])=intC xs ++ [.int .i64 x]:=by simp [intC]
theorem intC_at (xs:List Int) (j:Nat) (x:Int) (h:xs[j]? = some x):(intC xs)[j]? = some (.int .i64 x):=by simp [intC,h]
/-- The slice value v reads in w as the numbers xs. -/
def Ints (w:World) (v:Value) (xs:List Int):Prop :=
 ∃ a c,v=.slice a xs.length c∧xs.length≤c∧(0<xs.length→∃ g o,a=some ⟨g,o,none⟩∧g<w.heap.size∧∀ j x,xs[j]? = some x→w.cell? ⟨g,o+j,none⟩=some (.int .i64 x))
theorem Ints.kept {w w':World} {v:Value} {xs:List Int} (h:Ints w v xs) (k:Kept w w'):Ints w' v xs:=by
 obtain ⟨a,c,hv,hc,h3⟩:=h
 refine ⟨a,c,hv,hc,fun q=>?_⟩
 obtain ⟨g,o,ha,hg,hcell⟩:=h3 q
 exact ⟨g,o,ha,Nat.lt_of_lt_of_le hg k.size,fun j x hx=>(k.cell (p:=⟨g,o+j,none⟩) hg).trans (hcell j x hx)⟩
theorem Ints.own {w:World} {base:Nat} {e:TypeId} {v:Value} {xs:List Int} (h:w.ownsRow base e 1 v xs.length (intC xs)):Ints w v xs:=by
 obtain ⟨a,c,hv,hc,_,h3⟩:=own_cap h
 refine ⟨a,c,hv,hc,fun q=>?_⟩
 obtain ⟨g,ha,_,hg,hcell⟩:=h3 q
 exact ⟨g,0,ha,hg,fun j x hx=>by rw [Nat.zero_add]; exact hcell j _ (intC_at xs j x hx)⟩
/-- A slice whose elements lie in no block of S is as it was. -/
theorem Ints.only {S:Nat→Prop} {w w':World} {v:Value} {xs:List Int} (h:Ints w v xs) (k:Only S w w') (hS:∀ g,S g→w.heap.size≤g∨∀ o n c,v≠.slice (some ⟨g,o,none⟩) n c):Ints w' v xs:=by
 obtain ⟨a,c,hv,hc,h3⟩:=h
 refine ⟨a,c,hv,hc,fun q=>?_⟩
 obtain ⟨g,o,ha,hg,hcell⟩:=h3 q
 have hs:¬ S g:=fun z=>by
  rcases hS g z with h1 | h1
  ·omega
  ·exact h1 o _ _ (by rw [hv,ha])
 exact ⟨g,o,ha,Nat.lt_of_lt_of_le hg k.size,fun j x hx=>(k.cell g _ hg hs).trans (hcell j x hx)⟩

/-- The set of numbers, as a map that says true of each. -/
def setV (xs:List Int):List (Int × Value):=xs.foldl (fun es x=>if (getV es x).isSome=true then es else es ++ [(x,.bool true)]) []
theorem getV_snoc (es:List (Int × Value)) (x:Int) (v:Value) (k:Int):getV (es ++ [(x,v)]) k=match getV es k with
  | some u=>some u
  | none=>if x=k then some v else none:=by
 unfold getV
 rw [List.find?_append]
 cases h:es.find? (fun e=>e.1 == k) with
 | some e=>rfl
 | none =>
  simp only [Option.none_or,Option.map_none]
  by_cases q:x=k
  ·subst q; simp
  ·rw [if_neg q]; simp [q]
theorem setV_snoc (xs:List Int) (x:Int):setV (xs ++ [x])=if (getV (setV xs) x).isSome=true then setV xs else setV xs ++ [(x,.bool true)]:=by
 unfold setV; rw [List.foldl_append]; rfl
theorem getV_set (k:Int):∀ (n:Nat) (xs:List Int),xs.length=n→getV (setV xs) k=if xs.contains k=true then some (.bool true) else none
 | 0,xs,h=>by obtain rfl:=List.length_eq_zero_iff.1 h; rfl
 | n+1,xs,h=>by
  obtain ⟨o,x,rfl⟩:∃ o x,xs=o ++ [x]:=⟨xs.dropLast,xs.getLast (by intro q; subst q; cases h),(List.dropLast_concat_getLast _).symm⟩
  have ih:=getV_set k n o (by simpa using h)
  have ihx:=getV_set x n o (by simpa using h)
  rw [setV_snoc,ihx]
  have hc:(o ++ [x]).contains k=(o.contains k || x == k):=by
   rw [Bool.eq_iff_iff]
   simp only [List.contains_iff_mem,List.mem_append,List.mem_singleton,Bool.or_eq_true,beq_iff_eq]
   exact ⟨fun h=>h.elim .inl (fun e=>.inr e.symm),fun h=>h.elim .inl (fun e=>.inr e.symm)⟩
  rw [hc]
  by_cases q:o.contains x=true
  ·rw [if_pos q,if_pos (show (some (Value.bool true)).isSome=true from rfl),ih]
   by_cases e:x=k
   ·subst e; rw [q]; rfl
   ·have:(x == k)=false:=by simpa using e
    rw [this,Bool.or_false]
  ·rw [if_neg q,if_neg (show ¬ (none:Option Value).isSome=true by simp),getV_snoc,ih]
   by_cases q2:o.contains k=true
   ·rw [if_pos q2,q2]; rfl
   ·rw [if_neg q2]
    have q3:o.contains k=false:=by simpa using q2
    rw [q3,Bool.false_or]
    by_cases e:x=k
    ·subst e; simp
    ·have:(x == k)=false:=by simpa using e
     rw [if_neg e,this]; simp
theorem setV_has (xs:List Int) (k:Int):(getV (setV xs) k).getD (.bool false)=.bool (xs.contains k):=by
 rw [getV_set k _ xs rfl]
 cases xs.contains k <;> rfl
theorem setV_is (xs:List Int) (k:Int):getV (setV xs) k=if xs.contains k=true then some (.bool true) else none:=getV_set k _ xs rfl
/-- Letters of one element of Order put to the groups. -/
def grpA (i:Nat) (es:List (Int × Value)) (xs:List Int):List (Int × Value):=xs.foldl (fun es x=>if (getV es x).isSome=true then es else es ++ [(x,.int .i64 i)]) es
def grpN:List Bs→Nat→List (Int × Value)→List (Int × Value)
 | [],_,es=>es
 | s :: ss,i,es=>grpN ss (i+1) (grpA i es (ptsL s))
/-- The groups of a collation. -/
def grpV (c:ColT):List (Int × Value):=grpN c.order 0 []
theorem grpA_snoc (i:Nat) (es:List (Int × Value)) (xs:List Int) (x:Int):grpA i es (xs ++ [x])=if (getV (grpA i es xs) x).isSome=true then grpA i es xs else grpA i es xs ++ [(x,.int .i64 i)]:=by
 unfold grpA; rw [List.foldl_append]; rfl
theorem getV_grpA (i:Nat) (k:Int):∀ (xs:List Int) (es:List (Int × Value)),getV (grpA i es xs) k=match getV es k with
  | some u=>some u
  | none=>if xs.contains k=true then some (.int .i64 i) else none
 | [],es=>by
  show getV es k=_
  cases getV es k <;> rfl
 | x :: xs,es=>by
  show getV (grpA i (if (getV es x).isSome=true then es else es ++ [(x,.int .i64 i)]) xs) k=_
  rw [getV_grpA i k xs]
  have hc:(x :: xs).contains k=((x == k) || xs.contains k):=by
   rw [Bool.eq_iff_iff]
   simp only [List.contains_iff_mem,List.mem_cons,Bool.or_eq_true,beq_iff_eq]
   exact ⟨fun h=>h.elim (fun e=>.inl e.symm) .inr,fun h=>h.elim (fun e=>.inl e.symm) .inr⟩
  rw [hc]
  by_cases q:(getV es x).isSome=true
  ·rw [if_pos q]
   cases hk:getV es k with
   | some u=>rfl
   | none =>
    simp only
    have:(x == k)=false:=by
     rw [beq_eq_false_iff_ne]
     rintro rfl
     rw [hk] at q; cases q
    rw [this,Bool.false_or]
  ·rw [if_neg q,getV_snoc]
   cases hk:getV es k with
   | some u=>rfl
   | none =>
    simp only
    by_cases e:x=k
    ·subst e; simp
    ·have:(x == k)=false:=by simpa using e
     rw [if_neg e,this,Bool.false_or]
theorem getV_grpN (k:Int):∀ (ss:List Bs) (i:Nat) (es:List (Int × Value)),getV (grpN ss i es) k=match getV es k with
  | some u=>some u
  | none=>(ss.findIdx? fun s=>(ptsL s).contains k).map fun j=>.int .i64 ((i+j:Nat):Int)
 | [],i,es=>by
  show getV es k=_
  cases getV es k <;> rfl
 | s :: ss,i,es=>by
  show getV (grpN ss (i+1) (grpA i es (ptsL s))) k=_
  rw [getV_grpN k ss (i+1),getV_grpA]
  cases hk:getV es k with
  | some u=>rfl
  | none =>
   simp only
   rw [List.findIdx?_cons]
   by_cases q:(ptsL s).contains k=true
   ·rw [if_pos q,if_pos q]; rfl
   ·rw [if_neg q,if_neg q]
    simp only [Option.map_map]
    congr 1
    funext j
    simp only [Function.comp_apply]
    congr 2; omega
theorem grpV_is (c:ColT) (k:Int):getV (grpV c) k=(grpI c k).map fun j=>.int .i64 (j:Int):=by
 unfold grpV grpI
 rw [getV_grpN]
 simp [getV]
theorem grpN_snoc:∀ (ss:List Bs) (s:Bs) (i:Nat) (es:List (Int × Value)),grpN (ss ++ [s]) i es=grpA (i+ss.length) (grpN ss i es) (ptsL s)
 | [],s,i,es=>rfl
 | t :: ss,s,i,es=>by
  show grpN (ss ++ [s]) (i+1) _=_
  rw [grpN_snoc ss s (i+1),List.length_cons,show i+1+ss.length=i+(ss.length+1) from by omega]; rfl
/-- The values of rules in memory: what is found at a letter reads as the letters as which it is sorted. -/
def ValsR (w:World) (es:List (Int × Value)) (c:ColT):Prop:=∀ k,match valI c k with
 | none=>getV es k=none
 | some ys=>∃ v,getV es k=some v∧Ints w v ys
theorem ValsR.nil (w:World) (o:List Bs) (i:Bs):ValsR w [] ⟨[],o,i⟩:=fun _=>rfl
theorem ValsR.kept {w w':World} {es:List (Int × Value)} {c:ColT} (h:ValsR w es c) (k:Kept w w'):ValsR w' es c:=fun x=>by
 have:=h x
 cases hv:valI c x with
 | none=>rw [hv] at this; exact this
 | some ys =>
  rw [hv] at this
  obtain ⟨v,h1,h2⟩:=this
  exact ⟨v,h1,h2.kept k⟩
theorem valI_snoc (rs:List Pr) (p:Pr) (o:List Bs) (i:Bs) (x:Int):valI ⟨rs ++ [p],o,i⟩ x=match valI ⟨rs,o,i⟩ x with
  | some ys=>some ys
  | none=>if ptsL p.1=[x] then some (ptsL p.2) else none:=by
 unfold valI
 simp only [List.find?_append]
 cases h:rs.find? (fun p=>ptsL p.1 == [x]) with
 | some e=>rfl
 | none =>
  simp only [Option.none_or,Option.map_none]
  by_cases q:ptsL p.1=[x]
  ·rw [if_pos q]; simp [q]
  ·rw [if_neg q]; simp [q]
end Go.Proofs.YtmcoomlkbgiboaaGreatDoor

/- Whole numbers and texts appended in a region that draws its order. Conditions: lengths. -/
set_option linter.all false
namespace Go.Proofs.YtmcoomlkbgiboaaGreatDoor
open Go.RowKit

theorem Tryz.infoInt:(Tryz.prog.info? 3).map (fun i=>(i.zero,i.size,i.bytes))=some (some (.int .i64 0),1,8):=by kernel_rfl
theorem addr_at (g o j:Nat):(⟨g,o,none⟩:Addr).add j=⟨g,o+j,none⟩:=by unfold Addr.add; split <;> simp_all
theorem step_append_any {P:Program} (w:World) {ops:Array Oper} {o:Oper} {a:Act} {K:Act→World→Prop} {Q:Exit→Act→World→Prop} {E:Prop} (hgd:o.guard=none) (s x:Operand) (t:TypeId)
  (ho:o.op=.call { callee:=.builtin .append,args:=#[s,x],argTypes:=#[t,t] })
  (base:Nat) (e:TypeId) (i:TypeInfo) (z:Value) (size bytes:Nat) (ht:P.underlying t=some (.slice e)) (hi:P.info? e=some i) (hz:i.zero=some z)
  (hsize:i.size=size) (hby:i.bytes=bytes) (hzs:z.cells.size=size) (hsz:0<size)
  (v:Value) (n:Nat) (xs:List Value) (hs:a.eval s=v) (hown:w.ownsRow base e size v n xs)
  (a':Option Addr) (m c:Nat) (news:List Value) (hx:a.eval x=.slice a' m c) (hl:news.length=m * size)
  (hsrc:0<m→∃ g o2,a'=some ⟨g,o2,none⟩∧∀ j u,news[j]? = some u→w.cell? ⟨g,o2+j,none⟩=some u) (h1:∀ u∈news,u.oneCell'=true)
  (h63:n+m≤maxLen) (hbytes:(n+m) * bytes≤140737488355328) (hbase:base≤w.heap.size)
  (h:∀ v' w',w'.ownsRow base e size v' (n+m) (xs ++ news)→w.grownBy w' v.ownBlock→K (a.put o.dst v') w') :
  if Region.wanted o (yielded ops a.tmps)=true then Oper.wp P o a w K Q else E:=by
 have hw:Region.wanted o (yielded ops a.tmps)=true:=by simp [Region.wanted,hgd]
 rw [if_pos hw]
 by_cases hq:0<m
 ·obtain ⟨g,o2,rfl,hc⟩:=hsrc hq
  refine wp_append_lies w s x t ho base e i z size bytes ht hi hz hsize hby hzs hsz v n xs hs hown ⟨g,o2,none⟩ m c news hx hl (fun j u hu=>by rw [addr_at]; exact hc j u hu) h1 hq h63 hbytes hbase w.heap.size rfl ?_
  intro g' cap w' h1 h2 _ _
  exact h _ _ h1 h2
 ·obtain rfl:m=0:=by omega
  obtain rfl:news=[]:=List.length_eq_zero_iff.1 (by omega)
  have hown':=hown
  obtain ⟨a2,c2,rfl,hle,_,_⟩:=own_cap hown
  have hsrc:Src P i.size t (.slice a' 0 c) 0 [] w:=by
   refine ⟨.inl ⟨_,ht⟩,fun w'=>?_,?_,?_,by simp,by simp⟩
   ·simp [Builtin.lenOf]
   ·cases a' <;> simp [Builtin.firstCells,loadCells,loadCellsFrom]
   ·cases a' <;> simp [Builtin.firstCells,loadCells,loadCellsFrom]
  have hr:=run_append_nothing (P:=P) w t t o.type e i ht hi a2 n c2 hle (.slice a' 0 c) hsrc
  unfold Oper.wp execOp
  simp only [ho,resolve,invoke,builtin,Sem.run_bind,Sem.run_pure,Result.andThen_ok,List.map_toArray,List.map_cons,List.map_nil,hs,hx]
  rw [hr]
  refine h _ _ ?_ (World.grownBy.refl _ _)
  rw [List.append_nil]; exact hown'
theorem strCells_one (xs:List Bs):∀ u∈strCells xs,u.oneCell'=true:=by
 intro u hu
 unfold strCells at hu
 rw [List.mem_map] at hu
 obtain ⟨x,_,rfl⟩:=hu; rfl
theorem strCells_back (xs:List Bs) (j:Nat) (u:Value) (h:(strCells xs)[j]? = some u):∃ x,xs[j]? = some x∧u=.string (bs x):=by
 unfold strCells at h
 rw [List.getElem?_map] at h
 cases hx:xs[j]? with
 | none=>rw [hx] at h; cases h
 | some x=>rw [hx] at h; exact ⟨x,rfl,by simpa using h.symm⟩
set_option maxRecDepth 100000 in
theorem step_append_strs (w:World) {ops:Array Oper} {o:Oper} {a:Act} {K:Act→World→Prop} {Q:Exit→Act→World→Prop} {E:Prop} (hgd:o.guard=none) (s x:Operand)
  (ho:o.op=.call { callee:=.builtin .append,args:=#[s,x],argTypes:=#[29,29] })
  (base:Nat) (v:Value) (ps:List Bs) (hs:a.eval s=v) (hown:w.ownsRow base 9 1 v ps.length (strCells ps)) (u:Value) (qs:List Bs) (hx:a.eval x=u) (hu:Strs w u qs)
  (hb:ps.length+qs.length≤5000000) (hbase:base≤w.heap.size)
  (h:∀ v' w',w'.ownsRow base 9 1 v' (ps ++ qs).length (strCells (ps ++ qs))→w.grownBy w' v.ownBlock→K (a.put o.dst v') w') :
  if Region.wanted o (yielded ops a.tmps)=true then Oper.wp Tryz.prog o a w K Q else E:=by
 obtain ⟨i0,hi,hz0,hz1,hz2⟩:=info_parts Tryz.infoStr
 obtain ⟨a',c',rfl,hc,h3⟩:=hu
 refine step_append_any w hgd s x 29 ho base 9 i0 (.string ⟨#[]⟩) 1 16 Tryz.underlying29 hi hz0 hz1 hz2 rfl (by decide) v ps.length (strCells ps) hs hown a' qs.length c' (strCells qs) hx (by simp [strCells_length]) (fun hq=>?_) (strCells_one qs) (by unfold maxLen; omega) (by omega) hbase (fun v' w' h1 h2=>h v' w' ?_ h2)
 ·obtain ⟨g,o2,rfl,_,hcell⟩:=h3 hq
  refine ⟨g,o2,rfl,fun j u hu=>?_⟩
  obtain ⟨y,hy,rfl⟩:=strCells_back qs j u hu
  exact hcell j y hy
 ·rw [List.length_append,show strCells (ps ++ qs)=strCells ps ++ strCells qs from by simp [strCells]]; exact h1
end Go.Proofs.YtmcoomlkbgiboaaGreatDoor
