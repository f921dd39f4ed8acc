/- Terms, marks and entries of an index, in plain Lean. No condition. -/
import Derived.Test.YtmcoomlkbgiboaaGreatDoorK04
import Derived.Test.YtmcoomlkbgiboaaGreatDoorK02
import Derived.Test.YtmcoomlkbgiboaaGreatDoorK11
import Derived.Lib.ItoaNum
import Derived.Lib.TrimByte

set_option linter.all false
namespace Go.Proofs.YtmcoomlkbgiboaaGreatDoor
open Go.RowKit

def kIndex:Bs:=[105,110,100,101,120]
def ixKey:Bs:=[107,101,121]
def trimI (s:Bs):Bs:=Lib.trimB s 32
def mainOf (s:Bs):Bs:=trimI ((trimI s).take (before 33 (trimI s)))
def isMk (x:Inl):Bool:=decide (x.kind=11) && x.cls.contains kIndex
def termTx (x:Inl):Bs:=(getP x.prs ixKey).getD (plainL x.kids)
def mainI (x:Inl):Bs:=match isMk x with | true=>mainOf (termTx x) | false=>[]
/-- Is an inline a mark that is not ignored? -/
def okM (x:Inl):Bool:=!(mainI x == [])
/-- Identifier number n. -/
def idN (n:Nat):Bs:=[105,120,45] ++ Lib.itoa n
/-- The first number behind n that is free. -/
def nextF (used:List Bs):Nat→Nat→Nat
 | 0,n=>n+1
 | f+1,n=>if used.contains (idN (n+1))=true then nextF used f (n+1) else n+1
def nextN (used:List Bs) (n:Nat):Nat:=nextF used used.length n
def needI (x:Inl):Bool:=x.id == [] && okM x
def ixNumS (used:List Bs) (n:Nat) (b:Bool):Nat:=match b with | true=>nextN used n | false=>n
def idS (id:Bs) (m:Nat) (b:Bool):Bs:=match b with | true=>idN m | false=>id
mutual
/-- A marked copy of an inline, and the last number. -/
def mk1 (used:List Bs):Nat→Inl→Inl × Nat
 | n,.mk kind text dest title id cls prs args cits kids =>
  (.mk kind text dest title (idS id (ixNumS used n (needI (.mk kind text dest title id cls prs args cits kids))) (needI (.mk kind text dest title id cls prs args cits kids))) cls prs args cits
   (mkL used (ixNumS used n (needI (.mk kind text dest title id cls prs args cits kids))) kids).1,(mkL used (ixNumS used n (needI (.mk kind text dest title id cls prs args cits kids))) kids).2)
def mkL (used:List Bs):Nat→List Inl→List Inl × Nat
 | n,[]=>([],n)
 | n,x :: xs=>((mk1 used n x).1 :: (mkL used (mk1 used n x).2 xs).1,(mkL used (mk1 used n x).2 xs).2)
end
mutual
/-- The blocks at every depth. -/
def list1:Blo→List Blo
 | .mk kind level info text dest title id cls prs line kids=>.mk kind level info text dest title id cls prs line kids :: listL kids
def listL:List Blo→List Blo
 | []=>[]
 | x :: xs=>list1 x ++ listL xs
end
theorem list1_eq (b:Blo):list1 b=b :: listL b.kids:=by cases b; rfl
theorem listL_app (xs ys:List Blo):listL (xs ++ ys)=listL xs ++ listL ys:=by
 induction xs with
 | nil=>rfl
 | cons x xs ih=>show list1 x ++ listL (xs ++ ys)=_; rw [ih]; show _=(list1 x ++ listL xs) ++ _; rw [List.append_assoc]
end Go.Proofs.YtmcoomlkbgiboaaGreatDoor

/- Small documents, in plain Lean. No condition. -/
set_option linter.all false
namespace Go.Proofs.YtmcoomlkbgiboaaGreatDoor
open Go.RowKit

/-- What a machine can tell of a block. -/
def FitK (x:Blo):Prop:=(x.info.length≤140737488355328∧x.text.length≤140737488355328∧x.dest.length≤140737488355328∧x.title.length≤140737488355328)∧FitA x.id x.cls x.prs∧x.line.length≤140737488355328∧x.kids.length≤140737488355328∧∀ y∈deepL x.line,FitX y
/-- A small block. -/
def okBs (x:Blo):Prop:=(x.text.length+x.info.length+x.dest.length+x.title.length≤300∧okLong x.id x.cls x.prs)∧∀ y∈deepL x.line,okXs y
/-- Blocks and inlines, counted. -/
def sumB (xs:List Blo):Nat:=(listL xs).length+(inlsL xs).length
theorem listL_snocH {xs:List Blo} {k:Nat} {x:Blo} (h:xs[k]? = some x):listL (xs.take (k+1))=(listL (xs.take k) ++ [x]) ++ listL x.kids:=by
 have e:listL [x]=x :: listL x.kids:=by
  show list1 x ++ []=_
  rw [List.append_nil,list1_eq]
 rw [take_snoc h,listL_app,e]; simp
theorem sumB_tk {xs:List Blo} {k:Nat} {x:Blo} (h:xs[k]? = some x):sumB (xs.take (k+1))=sumB (xs.take k)+1+(deepL x.line).length+sumB x.kids:=by
 have e:inlsL [x]=deepL x.line ++ inlsL x.kids:=by
  show inls1 x ++ []=_
  rw [List.append_nil,inls1_eq]
 unfold sumB
 rw [listL_snocH h,take_snoc h,inlsL_app,e]
 simp only [List.length_append,List.length_singleton]; omega
theorem listL_at {xs:List Blo} {x:Blo} (h:x∈xs):x∈listL xs∧∀ y∈listL x.kids,y∈listL xs:=by
 induction xs with
 | nil=>cases h
 | cons z xs ih =>
  show x∈list1 z ++ listL xs∧∀ y∈listL x.kids,y∈list1 z ++ listL xs
  rcases List.mem_cons.1 h with rfl | h
  ·rw [list1_eq]
   exact ⟨by simp,fun y hy=>by simp [hy]⟩
  ·obtain ⟨a,b⟩:=ih h
   exact ⟨by simp [a],fun y hy=>by simp [b y hy]⟩
/-- What a machine can tell of a document. -/
def FitD0 (ms:List Pr) (xs:List Blo):Prop:=(ms.length≤140737488355328∧∀ q∈ms,q.1.length≤140737488355328∧q.2.length≤140737488355328)∧xs.length≤140737488355328∧∀ x∈listL xs,FitK x
/-- A small document's blocks. -/
def SmB (xs:List Blo):Prop:=sumB xs≤120∧∀ x∈listL xs,okBs x
end Go.Proofs.YtmcoomlkbgiboaaGreatDoor

/- The keys that a document cites, in plain Lean. No condition. -/
set_option linter.all false
namespace Go.Proofs.YtmcoomlkbgiboaaGreatDoor
open Go.RowKit

def keyStep (out:List Bs) (k:Bs):List Bs:=if out.contains k=true then out else out ++ [k]
def keysL (ks:List Bs):List Bs:=ks.foldl keyStep []
def citKeys (x:Inl):List Bs:=if x.kind=13 then x.cits.map (·.key) else []
def keysI (xs:List Inl):List Bs:=keysL (xs.flatMap citKeys)
def keysD (xs:List Blo):List Bs:=keysI (inlsL xs)
theorem keysL_app (a b:List Bs):keysL (a ++ b)=b.foldl keyStep (keysL a):=by unfold keysL; rw [List.foldl_append]
theorem keysL_snoc (a:List Bs) (k:Bs):keysL (a ++ [k])=keyStep (keysL a) k:=by rw [keysL_app]; rfl
theorem keysL_len (l:List Bs):(keysL l).length≤l.length:=by
 have key:∀ (l out:List Bs),(l.foldl keyStep out).length≤out.length+l.length:=by
  intro l
  induction l with
  | nil=>intro out; exact Nat.le_refl _
  | cons k l ih =>
   intro out
   have h1:=ih (keyStep out k)
   have h2:(keyStep out k).length≤out.length+1:=by unfold keyStep; split <;> simp
   rw [List.length_cons]
   show (l.foldl keyStep (keyStep out k)).length≤_
   omega
 simpa [keysL] using key l []
theorem keys_tk {ds:List Inl} {k:Nat} {x:Inl} (h:ds[k]? = some x):(ds.take (k+1)).flatMap citKeys=(ds.take k).flatMap citKeys ++ citKeys x:=by
 rw [take_snoc h,List.flatMap_append]; simp
theorem keys_led {ds:List Inl} {k:Nat} {x:Inl} (h:ds[k]? = some x):((ds.take k).flatMap citKeys).length+(citKeys x).length≤(ds.flatMap citKeys).length:=by
 obtain ⟨hk,rfl⟩:=List.getElem?_eq_some_iff.1 h
 have h0:ds=ds.take k ++ (ds[k] :: ds.drop (k+1)):=by rw [← List.drop_eq_getElem_cons hk,List.take_append_drop]
 conv=>rhs; rw [h0]
 rw [List.flatMap_append,List.flatMap_cons,List.length_append,List.length_append]; omega
theorem keyStep_in {us:List Bs} {k:Bs} (h:us.contains k=true):keyStep us k=us:=if_pos h
theorem keyStep_no {us:List Bs} {k:Bs} (h:us.contains k=false):keyStep us k=us ++ [k]:=if_neg (by rw [h]; simp)
theorem keys_next {pre:List Bs} {cs:List Cit} {j:Nat} {c:Cit} (h:cs[j]? = some c):keysL (pre ++ (cs.take (j+1)).map (·.key))=keyStep (keysL (pre ++ (cs.take j).map (·.key))) c.key:=by
 rw [take_snoc h,List.map_append,← List.append_assoc]
 exact keysL_snoc _ _
mutual
theorem inls1_list:∀ x:Blo,inls1 x=(list1 x).flatMap fun b=>deepL b.line
 | .mk kind level info text dest title id cls prs line kids=>by
  have h:=inlsL_list kids
  rw [list1_eq,List.flatMap_cons]
  show deepL line ++ inlsL kids=deepL line ++ (listL kids).flatMap fun b=>deepL b.line
  rw [h]
theorem inlsL_list:∀ xs:List Blo,inlsL xs=(listL xs).flatMap fun b=>deepL b.line
 | []=>rfl
 | x :: xs=>by
  have h1:=inls1_list x
  have h2:=inlsL_list xs
  show inls1 x ++ inlsL xs=(list1 x ++ listL xs).flatMap _
  rw [List.flatMap_append,h1,h2]
end
end Go.Proofs.YtmcoomlkbgiboaaGreatDoor

/- Small documents meet what the walks of cite ask. No condition. -/
set_option linter.all false
namespace Go.Proofs.YtmcoomlkbgiboaaGreatDoor
open Go.RowKit

theorem deepL_kids:∀ xs:List Inl,xs.length≤(deepL xs).length
 | []=>Nat.le_refl _
 | x :: xs=>by
  have h:=deepL_kids xs
  show xs.length+1≤(deep1 x ++ deepL xs).length
  rw [deep1_eq,List.length_append,List.length_cons]; omega
theorem listL_kids:∀ xs:List Blo,xs.length≤(listL xs).length
 | []=>Nat.le_refl _
 | x :: xs=>by
  have h:=listL_kids xs
  show xs.length+1≤(list1 x ++ listL xs).length
  rw [list1_eq,List.length_append,List.length_cons]; omega
theorem okLong_id {id:Bs} {cls:List Bs} {prs:List Pr} (h:okLong id cls prs):id.length≤600:=by have:=h.2.2; omega
mutual
theorem okI1_small:∀ x:Inl,(∀ y∈deep1 x,okXs y)→(deep1 x).length≤120→okI1 x
 | .mk kind text dest title id cls prs args cits kids,h,hl=>by
  rw [deep1_eq] at h hl
  rw [List.length_cons] at hl
  obtain ⟨h1,h2,h3,h4,_,_⟩:=h _ (List.mem_cons_self ..)
  have hk:=deepL_kids kids
  have h5:=okLong_id h2
  have hl':(deepL kids).length+1≤120:=hl
  have h1':text.length+dest.length+title.length≤300:=h1
  have h2':okLong id cls prs:=h2
  have h3':args.length≤9:=h3
  have h4':cits.length≤9:=h4
  obtain ⟨c1,c2,_⟩:=h2'
  have h5':id.length≤600:=h5
  exact ⟨⟨by omega,by omega,by omega,by omega,by omega,by omega,by omega,by omega,by omega⟩,okIL_small kids (fun y hy=>h y (List.mem_cons_of_mem _ hy)) (by omega)⟩
theorem okIL_small:∀ xs:List Inl,(∀ y∈deepL xs,okXs y)→(deepL xs).length≤120→okIL xs
 | [],_,_=>trivial
 | x :: xs,h,hl=>by
  have hl':(deep1 x ++ deepL xs).length≤120:=hl
  rw [List.length_append] at hl'
  exact ⟨okI1_small x (fun y hy=>h y (List.mem_append.2 (.inl hy))) (by omega),okIL_small xs (fun y hy=>h y (List.mem_append.2 (.inr hy))) (by omega)⟩
end
mutual
theorem okB1_small:∀ x:Blo,(∀ y∈list1 x,okBs y)→(list1 x).length+(inls1 x).length≤120→okB1 x
 | .mk kind level info text dest title id cls prs line kids,h,hl=>by
  rw [list1_eq] at h hl
  rw [List.length_cons] at hl
  obtain ⟨⟨h1,h2⟩,h3⟩:=h _ (List.mem_cons_self ..)
  have hl':(listL kids).length+1+(deepL line ++ inlsL kids).length≤120:=hl
  rw [List.length_append] at hl'
  have hk:=listL_kids kids
  have hd:=deepL_kids line
  have h1':text.length+info.length+dest.length+title.length≤300:=h1
  have h2':okLong id cls prs:=h2
  have h5':id.length≤600:=okLong_id h2'
  obtain ⟨c1,c2,_⟩:=h2'
  exact ⟨⟨by omega,by omega,by omega,by omega,by omega,by omega,by omega,by omega,by omega⟩,okIL_small line h3 (by omega),okBL_small kids (fun y hy=>h y (List.mem_cons_of_mem _ hy)) (by omega)⟩
theorem okBL_small:∀ xs:List Blo,(∀ x∈listL xs,okBs x)→(listL xs).length+(inlsL xs).length≤120→okBL xs
 | [],_,_=>trivial
 | x :: xs,h,hl=>by
  have hl':(list1 x ++ listL xs).length+(inls1 x ++ inlsL xs).length≤120:=hl
  rw [List.length_append,List.length_append] at hl'
  exact ⟨okB1_small x (fun y hy=>h y (List.mem_append.2 (.inl hy))) (by omega),okBL_small xs (fun y hy=>h y (List.mem_append.2 (.inr hy))) (by omega)⟩
end
mutual
theorem inls1_okXs:∀ x:Blo,(∀ y∈list1 x,okBs y)→∀ y∈inls1 x,okXs y
 | .mk kind level info text dest title id cls prs line kids,h,y,hy=>by
  rw [list1_eq] at h
  have hy':y∈deepL line ++ inlsL kids:=hy
  rcases List.mem_append.1 hy' with q | q
  ·exact (h _ (List.mem_cons_self ..)).2 y q
  ·exact inlsL_okXs kids (fun y hy=>h y (List.mem_cons_of_mem _ hy)) y q
theorem inlsL_okXs:∀ xs:List Blo,(∀ x∈listL xs,okBs x)→∀ y∈inlsL xs,okXs y
 | [],_,_,hy=>(List.not_mem_nil hy).elim
 | x :: xs,h,y,hy=>by
  rcases List.mem_append.1 (show y∈inls1 x ++ inlsL xs from hy) with q | q
  ·exact inls1_okXs x (fun y hy=>h y (List.mem_append.2 (.inl hy))) y q
  ·exact inlsL_okXs xs (fun y hy=>h y (List.mem_append.2 (.inr hy))) y q
end
theorem SmB.inls {xs:List Blo} (h:SmB xs):(inlsL xs).length≤120:=by have:=h.1; unfold sumB at this; omega
theorem SmB.list {xs:List Blo} (h:SmB xs):(listL xs).length≤120:=by have:=h.1; unfold sumB at this; omega
theorem SmB.len {xs:List Blo} (h:SmB xs):xs.length≤120:=Nat.le_trans (listL_kids xs) h.list
theorem SmB.okX {xs:List Blo} (h:SmB xs):∀ y∈inlsL xs,okXs y:=inlsL_okXs xs h.2
theorem SmB.okB {xs:List Blo} (h:SmB xs):okBL xs:=okBL_small xs h.2 h.1
mutual
theorem line1_inls:∀ x:Blo,∀ b∈list1 x,(deepL b.line).length≤(inls1 x).length
 | .mk kind level info text dest title id cls prs line kids,b,hb=>by
  have e:(inls1 (.mk kind level info text dest title id cls prs line kids)).length=(deepL line).length+(inlsL kids).length:=by show (deepL line ++ inlsL kids).length=_; rw [List.length_append]
  rw [list1_eq] at hb
  rcases List.mem_cons.1 hb with rfl | q
  ·show (deepL line).length≤_
   omega
  ·have:=lineL_inls kids b q
   omega
theorem lineL_inls:∀ xs:List Blo,∀ b∈listL xs,(deepL b.line).length≤(inlsL xs).length
 | [],_,hb=>(List.not_mem_nil hb).elim
 | x :: xs,b,hb=>by
  have e:(inlsL (x :: xs)).length=(inls1 x).length+(inlsL xs).length:=by show (inls1 x ++ inlsL xs).length=_; rw [List.length_append]
  rcases List.mem_append.1 (show b∈list1 x ++ listL xs from hb) with q | q
  ·have:=line1_inls x b q; omega
  ·have:=lineL_inls xs b q; omega
end
theorem SmB.line {xs:List Blo} (h:SmB xs):∀ b∈listL xs,b.line.length≤120:=fun b hb=>by
 have h1:=lineL_inls xs b hb
 have h2:=deepL_kids b.line
 have h3:=h.inls
 omega
theorem SmB.cits {xs:List Blo} (h:SmB xs):∀ x∈inlsL xs,x.cits.length≤9:=fun x hx=>(h.okX x hx).2.2.2.1
theorem keys_len (xs:List Inl) (h:∀ x∈xs,x.cits.length≤9):(xs.flatMap citKeys).length≤9 * xs.length:=by
 induction xs with
 | nil=>simp
 | cons x xs ih =>
  have h1:=h x (List.mem_cons_self ..)
  have h2:=ih (fun y hy=>h y (List.mem_cons_of_mem _ hy))
  have h3:(citKeys x).length≤9:=by
   unfold citKeys
   split
   ·rw [List.length_map]; exact h1
   ·simp
  rw [List.flatMap_cons,List.length_append,List.length_cons]; omega
end Go.Proofs.YtmcoomlkbgiboaaGreatDoor
