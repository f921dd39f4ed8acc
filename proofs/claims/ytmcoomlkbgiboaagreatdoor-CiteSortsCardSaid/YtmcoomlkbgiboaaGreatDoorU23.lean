/- Sorting by insertion, in plain Lean, over any comparison. Conditions: what is asked of the comparison. -/
import Derived.Test.YtmcoomlkbgiboaaGreatDoorU01
import Derived.Test.YtmcoomlkbgiboaaGreatDoorU13
import Derived.Sort.WalkA
import Derived.Sort.LotA

set_option linter.all false
namespace Go.Proofs.YtmcoomlkbgiboaaGreatDoor
open Go.Sort

section
variable {α:Type} (cf:α→α→Int)
/-- x put in from behind: what stands behind is greater. -/
def insR (x:α):List α→List α
 | []=>[x]
 | y :: ys=>if 0<cf y x then y :: insR x ys else x :: y :: ys
def insS (out:List α) (x:α):List α:=(insR cf x out.reverse).reverse
def sortS (l:List α):List α:=l.foldl (insS cf) []
/-- What is asked of a comparison. -/
structure PreO:Prop where
 anti:∀ x y,cf x y<0↔0<cf y x
 trans:∀ x y z,cf x y≤0→cf y z≤0→cf x z≤0
variable {cf}
theorem insR_perm (x:α):∀ l:List α,(insR cf x l).Perm (x :: l)
 | []=>.refl _
 | y :: ys=>by
  show (if 0<cf y x then y :: insR cf x ys else x :: y :: ys).Perm _
  split
  ·exact ((insR_perm x ys).cons y).trans (List.Perm.swap x y ys)
  ·exact .refl _
theorem insS_perm (out:List α) (x:α):(insS cf out x).Perm (x :: out):=by
 unfold insS
 exact (List.reverse_perm _).trans ((insR_perm x _).trans ((List.reverse_perm out).cons x))
theorem sortS_perm (l:List α):(sortS cf l).Perm l:=by
 have key:∀ (l out:List α),(l.foldl (insS cf) out).Perm (out ++ l):=by
  intro l
  induction l with
  | nil=>intro out; simp
  | cons x l ih =>
   intro out
   refine (ih _).trans ?_
   refine ((insS_perm out x).append_right l).trans ?_
   have h:=(List.perm_middle (a:=x) (l₁:=out) (l₂:=l)).symm
   exact h
 exact key l []
theorem sortS_len (l:List α):(sortS cf l).length=l.length:=(sortS_perm l).length_eq
theorem sortS_snoc (l:List α) (x:α):sortS cf (l ++ [x])=insS cf (sortS cf l) x:=by unfold sortS; rw [List.foldl_append]; rfl
/-- Descending, read from behind. -/
def dscR (cf:α→α→Int):List α→Prop
 | []=>True
 | x :: l=>(∀ y∈l,cf y x≤0)∧dscR cf l
theorem insR_dsc (h:PreO cf) (x:α):∀ l,dscR cf l→dscR cf (insR cf x l)
 | [],_=>⟨fun y hy=>(List.not_mem_nil hy).elim,trivial⟩
 | y :: ys,⟨h1,h2⟩=>by
  show dscR cf (if 0<cf y x then y :: insR cf x ys else x :: y :: ys)
  split
  ·rename_i q
   refine ⟨fun z hz=>?_,insR_dsc h x ys h2⟩
   rcases List.mem_cons.1 ((insR_perm x ys).mem_iff.1 hz) with rfl | hz
   ·have:=(h.anti z y).2 q; omega
   ·exact h1 z hz
  ·rename_i q
   refine ⟨fun z hz=>?_,h1,h2⟩
   rcases List.mem_cons.1 hz with rfl | hz
   ·omega
   ·exact h.trans z y x (h1 z hz) (by omega)
theorem sortS_dsc (h:PreO cf) (l:List α):dscR cf (sortS cf l).reverse:=by
 have key:∀ (l out:List α),dscR cf out.reverse→dscR cf (l.foldl (insS cf) out).reverse:=by
  intro l
  induction l with
  | nil=>intro out q; exact q
  | cons x l ih =>
   intro out q
   refine ih _ ?_
   unfold insS
   rw [List.reverse_reverse]
   exact insR_dsc h x _ q
 exact key l [] trivial
theorem dscR_head {cf:α→α→Int} {x:α} {l:List α} (h:dscR cf (x :: l)):insR cf x l=x :: l:=by
 cases l with
 | nil=>rfl
 | cons y ys =>
  show (if 0<cf y x then y :: insR cf x ys else x :: y :: ys)=_
  rw [if_neg (by have:=h.1 y (List.mem_cons_self ..); omega)]
/-- What is sorted stays. -/
theorem sortS_again (l:List α) (h:dscR cf l.reverse):sortS cf l=l:=by
 have key:∀ r:List α,dscR cf r→sortS cf r.reverse=r.reverse:=by
  intro r
  induction r with
  | nil=>intro _; rfl
  | cons x r ih =>
   intro q
   rw [List.reverse_cons,sortS_snoc,ih q.2]
   unfold insS
   rw [List.reverse_reverse,dscR_head q,List.reverse_cons]
 have:=key l.reverse h
 rwa [List.reverse_reverse] at this
theorem sortS_twice (h:PreO cf) (l:List α):sortS cf (sortS cf l)=sortS cf l:=sortS_again _ (sortS_dsc h l)

/-! The library's insertion sort. -/
def ltS (cf:α→α→Int) (x y:α):Bool:=decide (cf x y<0)
variable [Inhabited α]
theorem toListS {d:Array α} {i:Nat} {x:α} (h:d.toList[i]? = some x):d[i]! = x:=by
 rw [Array.getElem?_toList] at h
 rw [getElem!_def,h]
theorem swp_toS (d:Array α) (out:List α) (y x:α) (rest:List α) (h:d.toList=out ++ y :: x :: rest):(swp d (out.length+1) out.length).toList=out ++ x :: y :: rest:=by
 have hy:d[out.length]! = y:=toListS (by rw [h]; simp)
 have hx:d[out.length+1]! = x:=toListS (by rw [h]; simp)
 unfold swp
 rw [Array.toList_setIfInBounds,Array.toList_setIfInBounds,hy,hx,h]
 simp
theorem insInner_toS (h:∀ x y,cf x y<0↔0<cf y x):∀ (n:Nat) (d:Array α) (out:List α) (x:α) (rest:List α),out.length=n→d.toList=out ++ x :: rest→(insInner (ltS cf) 0 n d).toList=insS cf out x ++ rest:=by
 intro n
 induction n with
 | zero =>
  intro d out x rest hn hd
  obtain rfl:=List.length_eq_zero_iff.1 hn
  rw [insInner_stop _ _ _ _ (.inl (Nat.le_refl _)),hd]; rfl
 | succ n ih =>
  intro d out x rest hn hd
  obtain ⟨o,y,rfl⟩:∃ o y,out=o ++ [y]:=⟨out.dropLast,out.getLast (by intro q; subst q; cases hn),(List.dropLast_concat_getLast _).symm⟩
  have hl:o.length=n:=by simpa using hn
  have hd':d.toList=o ++ y :: x :: rest:=by rw [hd]; simp
  have hy:d[n]! = y:=toListS (by rw [hd',← hl]; simp)
  have hx:d[n+1]! = x:=toListS (by rw [hd',← hl]; simp)
  have e:insS cf (o ++ [y]) x=if 0<cf y x then insS cf o x ++ [y] else o ++ [y] ++ [x]:=by
   unfold insS
   rw [List.reverse_append]
   show ((if 0<cf y x then y :: insR cf x o.reverse else x :: y :: o.reverse)).reverse=_
   split <;> simp
  by_cases q:0<cf y x
  ·rw [insInner_go _ _ _ _ (by omega) (by rw [hx,show n+1 - 1=n from rfl,hy]; exact decide_eq_true ((h x y).2 q)),show n+1 - 1=n from rfl]
   have hs:=swp_toS d o y x rest hd'
   rw [hl] at hs
   rw [ih _ o x (y :: rest) hl hs,e,if_pos q]
   simp
  ·rw [insInner_stop _ _ _ _ (.inr (by rw [hx,show n+1 - 1=n from rfl,hy]; exact decide_eq_false (fun r=>q ((h x y).1 r)))),e,if_neg q,hd]
   simp
theorem insOuter_toS (h:∀ x y,cf x y<0↔0<cf y x) (b:Nat):∀ (n i:Nat) (d:Array α) (done rest:List α),b - i=n→i≤b→done.length=i→rest.length=b - i→d.toList=sortS cf done ++ rest→(insOuter (ltS cf) 0 b i d).toList=sortS cf (done ++ rest):=by
 intro n
 induction n with
 | zero =>
  intro i d done rest hn hi hl hr hd
  obtain rfl:=List.length_eq_zero_iff.1 (show rest.length=0 by omega)
  rw [insOuter_stop _ _ _ _ _ (by omega),hd]; simp
 | succ n ih =>
  intro i d done rest hn hi hl hr hd
  cases rest with
  | nil=>simp at hr; omega
  | cons x rest =>
   rw [insOuter_go _ _ _ _ _ (by omega)]
   have h1:=insInner_toS h i d (sortS cf done) x rest (by rw [sortS_len,hl]) hd
   rw [← sortS_snoc] at h1
   have h2:=ih (i+1) (insInner (ltS cf) 0 i d) (done ++ [x]) rest (by omega) (by omega) (by simp [hl]) (by simp at hr; omega) h1
   rw [h2]; simp
theorem insertion_toS (h:∀ x y,cf x y<0↔0<cf y x) (l:List α):(insertionSort (ltS cf) l.toArray 0 l.length).toList=sortS cf l:=by
 unfold insertionSort
 cases l with
 | nil=>rw [insOuter_stop _ _ _ _ _ (by simp)]; rfl
 | cons x l =>
  have:=insOuter_toS h (x :: l).length l.length 1 (x :: l).toArray [x] l (by simp) (by simp) rfl (by simp) rfl
  exact this
end
end Go.Proofs.YtmcoomlkbgiboaaGreatDoor

/- Comparisons one behind the other, in plain Lean. Conditions: what is asked of each. -/
set_option linter.all false
namespace Go.Proofs.YtmcoomlkbgiboaaGreatDoor

section
variable {α:Type}
/-- The first comparison that is not nought. -/
def lexC:List (α→α→Int)→α→α→Int
 | [],_,_=>0
 | f :: fs,x,y=>if f x y≠0 then f x y else lexC fs x y
theorem PreO.zero {f:α→α→Int} (h:PreO f) (x y:α):f x y=0↔f y x=0:=by
 have h1:=h.anti x y
 have h2:=h.anti y x
 constructor <;> intro q <;> omega
theorem PreO.lt {f:α→α→Int} (h:PreO f) {x y z:α} (h1:f x y≤0) (h2:f y z<0):f x z<0:=by
 have h3:=h.trans x y z h1 (by omega)
 rcases Int.lt_or_eq_of_le h3 with q | q
 ·exact q
 ·have h4:=h.trans z x y (by rw [(h.zero x z).1 q]; exact Int.le_refl _) h1
  have h5:=(h.anti y z).1 h2
  omega
theorem PreO.lt' {f:α→α→Int} (h:PreO f) {x y z:α} (h1:f x y<0) (h2:f y z≤0):f x z<0:=by
 have h3:=h.trans x y z (by omega) h2
 rcases Int.lt_or_eq_of_le h3 with q | q
 ·exact q
 ·have h4:=h.trans y z x h2 (by rw [(h.zero x z).1 q]; exact Int.le_refl _)
  have h5:=(h.anti x y).1 h1
  omega
theorem lexC_pre:∀ (fs:List (α→α→Int)),(∀ f∈fs,PreO f)→PreO (lexC fs)
 | [],_=>⟨fun x y=>by show (0:Int)<0↔(0:Int)<0; exact Iff.rfl,fun x y z _ _=>Int.le_refl _⟩
 | f :: fs,h=>by
  have hf:=h f (List.mem_cons_self ..)
  have ih:=lexC_pre fs (fun g hg=>h g (List.mem_cons_of_mem _ hg))
  have e:∀ x y,lexC (f :: fs) x y=if f x y≠0 then f x y else lexC fs x y:=fun _ _=>rfl
  refine ⟨fun x y=>?_,fun x y z h1 h2=>?_⟩
  ·rw [e,e]
   by_cases q:f x y=0
   ·have q2:=(hf.zero x y).1 q
    rw [if_neg (by omega),if_neg (by omega)]
    exact ih.anti x y
   ·have q2:f y x≠0:=fun r=>q ((hf.zero x y).2 r)
    rw [if_pos q,if_pos q2]
    exact hf.anti x y
  ·rw [e] at h1 h2 ⊢
   by_cases q1:f x y=0
   ·rw [if_neg (by omega)] at h1
    by_cases q2:f y z=0
    ·rw [if_neg (by omega)] at h2
     have q3:f x z=0:=by
      have a1:=hf.trans x y z (by omega) (by omega)
      have a2:=hf.trans z y x (by rw [(hf.zero y z).1 q2]; exact Int.le_refl _) (by rw [(hf.zero x y).1 q1]; exact Int.le_refl _)
      have a3:=hf.anti x z
      have a4:=hf.anti z x
      omega
     rw [if_neg (by omega)]
     exact ih.trans x y z h1 h2
    ·rw [if_pos q2] at h2
     have:=hf.lt (x:=x) (y:=y) (z:=z) (by omega) (by omega)
     rw [if_pos (by omega)]; omega
   ·rw [if_pos q1] at h1
    have q2:f y z≤0:=by
     by_cases q2:f y z=0
     ·omega
     ·rw [if_pos q2] at h2; exact h2
    have:=hf.lt' (x:=x) (y:=y) (z:=z) (by omega) q2
    rw [if_pos (by omega)]; omega
/-- The comparison of whole numbers. -/
def cmpZ (a b:Int):Int:=if a<b then -1 else if b<a then 1 else 0
theorem cmpZ_pre (f:α→Int):PreO (fun x y=>cmpZ (f x) (f y)):=by
 refine ⟨fun x y=>?_,fun x y z h1 h2=>?_⟩
 ·unfold cmpZ
  split <;> split <;> (try split) <;> omega
 ·unfold cmpZ at *
  split at h1 <;> split at h2 <;> (try split at h1) <;> (try split at h2) <;> split <;> (try split) <;> omega
end
end Go.Proofs.YtmcoomlkbgiboaaGreatDoor

/- Plain law: how texts compare under a collation is a total order. No condition. -/
set_option linter.all false
namespace Go.Proofs.YtmcoomlkbgiboaaGreatDoor
open Go.RowKit

theorem cmpI_self:∀ x:List Int,cmpI x x=0
 | []=>rfl
 | a :: x=>by rw [cmpI,if_neg (by omega),if_neg (by omega),cmpI_self x]
theorem cmpI_neg:∀ x y:List Int,cmpI y x = - cmpI x y
 | [],[]=>rfl
 | [],b :: y=>rfl
 | a :: x,[]=>rfl
 | a :: x,b :: y=>by
  rw [cmpI,cmpI]
  by_cases h:a<b
  ·rw [if_neg (show ¬ b<a by omega),if_pos h,if_pos h]; rfl
  ·by_cases h2:b<a
   ·rw [if_pos h2,if_neg h,if_pos h2]
   ·rw [if_neg h2,if_neg h,if_neg h,if_neg h2,cmpI_neg x y]
theorem cmpI_zero:∀ x y:List Int,cmpI x y=0→x=y
 | [],[],_=>rfl
 | [],b :: y,h=>by cases h
 | a :: x,[],h=>by cases h
 | a :: x,b :: y,h=>by
  rw [cmpI] at h
  split at h
  ·cases h
  split at h
  ·cases h
  ·rw [cmpI_zero x y h,show a=b from by omega]
theorem cmpI_trans:∀ x y z:List Int,cmpI x y≤0→cmpI y z≤0→cmpI x z≤0
 | [],_,[],_,_=>by simp [cmpI]
 | [],_,c :: z,_,_=>by simp [cmpI]
 | a :: x,[],_,h,_=>by simp [cmpI] at h
 | a :: x,b :: y,[],_,h=>by simp [cmpI] at h
 | a :: x,b :: y,c :: z,h1,h2=>by
  rw [cmpI] at h1 h2 ⊢
  by_cases p1:a<b
  ·by_cases p2:b<c
   ·rw [if_pos (by omega)]; omega
   ·rw [if_neg p2] at h2
    by_cases p3:c<b
    ·rw [if_pos p3] at h2; omega
    ·rw [if_pos (by omega)]; omega
  ·rw [if_neg p1] at h1
   by_cases p4:b<a
   ·rw [if_pos p4] at h1; omega
   ·rw [if_neg p4] at h1
    by_cases p2:b<c
    ·rw [if_pos (by omega)]; omega
    ·rw [if_neg p2] at h2
     by_cases p3:c<b
     ·rw [if_pos p3] at h2; omega
     ·rw [if_neg p3] at h2
      rw [if_neg (by omega),if_neg (by omega)]
      exact cmpI_trans x y z h1 h2
theorem bytes_inj:∀ a b:Bs,(a.map fun x=>(x.toNat:Int))=(b.map fun x=>(x.toNat:Int))→a=b
 | [],[],_=>rfl
 | [],b :: y,h=>by cases h
 | a :: x,[],h=>by cases h
 | a :: x,b :: y,h=>by
  simp only [List.map_cons,List.cons.injEq] at h
  rw [bytes_inj x y h.2,UInt8.toNat_inj.1 (Int.ofNat.inj h.1)]
theorem cmpC_self (c:ColT) (a:Bs):cmpC c a a=0:=by unfold cmpC cmpB; rw [cmpI_self,if_neg (by simp),cmpI_self]
theorem cmpC_neg (c:ColT) (a b:Bs):cmpC c b a = - cmpC c a b:=by
 unfold cmpC cmpB
 rw [cmpI_neg (keyI c a) (keyI c b),cmpI_neg (a.map fun x=>(x.toNat:Int)) (b.map fun x=>(x.toNat:Int))]
 by_cases h:cmpI (keyI c a) (keyI c b)=0
 ·rw [if_neg (by omega),if_neg (by omega)]
 ·rw [if_pos (by omega),if_pos (by omega)]
theorem cmpC_zero (c:ColT) (a b:Bs):cmpC c a b=0↔a=b:=by
 constructor
 ·intro h
  unfold cmpC at h
  split at h
  ·rename_i q; exact absurd h q
  ·exact bytes_inj a b (cmpI_zero _ _ h)
 ·rintro rfl; exact cmpC_self c a
theorem cmpC_trans (c:ColT) (a b d:Bs) (h1:cmpC c a b≤0) (h2:cmpC c b d≤0):cmpC c a d≤0:=by
 unfold cmpC at h1 h2 ⊢
 have t1:=cmpI_trans (keyI c a) (keyI c b) (keyI c d)
 have t2:=cmpI_trans (a.map fun x=>(x.toNat:Int)) (b.map fun x=>(x.toNat:Int)) (d.map fun x=>(x.toNat:Int))
 by_cases k1:cmpI (keyI c a) (keyI c b)=0
 ·rw [if_neg (by simpa using k1)] at h1
  have e1:=cmpI_zero _ _ k1
  rw [e1]
  by_cases k2:cmpI (keyI c b) (keyI c d)=0
  ·rw [if_neg (by simpa using k2)] at h2 ⊢
   exact t2 h1 h2
  ·rw [if_pos k2] at h2 ⊢
   exact h2
 ·rw [if_pos k1] at h1
  by_cases k2:cmpI (keyI c b) (keyI c d)=0
  ·have e2:=cmpI_zero _ _ k2
   rw [← e2,if_pos k1]
   exact h1
  ·rw [if_pos k2] at h2
   have h3:=t1 h1 h2
   by_cases k3:cmpI (keyI c a) (keyI c d)=0
   ·exfalso
    have e3:=cmpI_zero _ _ k3
    rw [e3] at h1
    have:=cmpI_neg (keyI c b) (keyI c d)
    omega
   ·rw [if_pos k3]; exact h3
theorem cmpI_at (x y:List Int) (k:Nat) (hx:k<x.length) (hy:k<y.length):cmpI (x.drop k) (y.drop k)=if x[k]<y[k] then -1 else if y[k]<x[k] then 1 else cmpI (x.drop (k+1)) (y.drop (k+1)):=by
 rw [List.drop_eq_getElem_cons hx,List.drop_eq_getElem_cons hy,cmpI]
theorem cmpI_end (x y:List Int) (k:Nat) (hk:k≤x.length) (hk2:k≤y.length) (h:¬ (k<x.length∧k<y.length)):cmpI (x.drop k) (y.drop k)=if x.length<y.length then -1 else if y.length<x.length then 1 else 0:=by
 by_cases h1:k<x.length
 ·have h2:y.length=k:=by omega
  rw [List.drop_of_length_le (l:=y) (by omega),List.drop_eq_getElem_cons h1,if_neg (by omega),if_pos (by omega)]; rfl
 ·rw [List.drop_of_length_le (l:=x) (by omega)]
  by_cases h2:k<y.length
  ·rw [List.drop_eq_getElem_cons h2,if_pos (by omega)]; rfl
  ·rw [List.drop_of_length_le (l:=y) (by omega),if_neg (by omega),if_neg (by omega)]; rfl
end Go.Proofs.YtmcoomlkbgiboaaGreatDoor

/- What sources are sorted by, in plain Lean. No condition. -/
set_option linter.all false
namespace Go.Proofs.YtmcoomlkbgiboaaGreatDoor
open Go.RowKit

structure KeyT where
 author:Bs
 year:Int
 title:Bs
 key:Bs
def wAuthor:Bs:=[97,117,116,104,111,114]
def wYear:Bs:=[121,101,97,114]
def wTitle:Bs:=[116,105,116,108,101]
def wordC (c:ColT) (w:Bs) (x y:KeyT):Int:=if w=wAuthor then cmpC c x.author y.author else if w=wYear then cmpZ x.year y.year else if w=wTitle then cmpC c x.title y.title else cmpB x.key y.key
def cfW (c:ColT) (ws:List Bs):KeyT→KeyT→Int:=lexC (ws.map (wordC c))
theorem pre_of_neg {α:Type} {f:α→α→Int} (h1:∀ x y,f y x = - f x y) (h2:∀ x y z,f x y≤0→f y z≤0→f x z≤0):PreO f:=⟨fun x y=>by have:=h1 x y; omega,h2⟩
theorem wordC_pre (c:ColT) (w:Bs):PreO (wordC c w):=by
 by_cases h1:w=wAuthor
 ·have e:wordC c w=fun x y=>cmpC c x.author y.author:=by funext x y; unfold wordC; rw [if_pos h1]
  rw [e]
  exact pre_of_neg (fun x y=>cmpC_neg c _ _) (fun x y z=>cmpC_trans c _ _ _)
 by_cases h2:w=wYear
 ·have e:wordC c w=fun x y=>cmpZ x.year y.year:=by funext x y; unfold wordC; rw [if_neg h1,if_pos h2]
  rw [e]
  exact cmpZ_pre _
 by_cases h3:w=wTitle
 ·have e:wordC c w=fun x y=>cmpC c x.title y.title:=by funext x y; unfold wordC; rw [if_neg h1,if_neg h2,if_pos h3]
  rw [e]
  exact pre_of_neg (fun x y=>cmpC_neg c _ _) (fun x y z=>cmpC_trans c _ _ _)
 ·have e:wordC c w=fun x y=>cmpB x.key y.key:=by funext x y; unfold wordC; rw [if_neg h1,if_neg h2,if_neg h3]
  rw [e]
  exact pre_of_neg (fun x y=>cmpI_neg _ _) (fun x y z=>cmpI_trans _ _ _)
theorem cfW_pre (c:ColT) (ws:List Bs):PreO (cfW c ws):=lexC_pre _ (fun f hf=>by
 obtain ⟨w,_,rfl⟩:=List.mem_map.1 hf
 exact wordC_pre c w)
theorem cfW_self (c:ColT) (ws:List Bs) (x:KeyT):cfW c ws x x=0:=by
 have h:=(cfW_pre c ws).anti x x
 omega
theorem cfW_cons (c:ColT) (w:Bs) (ws:List Bs) (x y:KeyT):cfW c (w :: ws) x y=if wordC c w x y≠0 then wordC c w x y else cfW c ws x y:=rfl
theorem cfW_drop {c:ColT} {ws:List Bs} {k:Nat} {w:Bs} (h:ws[k]? = some w) (x y:KeyT):cfW c (ws.drop k) x y=if wordC c w x y≠0 then wordC c w x y else cfW c (ws.drop (k+1)) x y:=by
 obtain ⟨hk,rfl⟩:=List.getElem?_eq_some_iff.1 h
 rw [List.drop_eq_getElem_cons hk,cfW_cons]
/-- Sorting what has a comparison by another's image. -/
theorem pre_map {α β:Type} {f:β→β→Int} (g:α→β) (h:PreO f):PreO (fun x y=>f (g x) (g y)):=⟨fun x y=>h.anti (g x) (g y),fun x y z=>h.trans (g x) (g y) (g z)⟩
theorem insS_map {α β:Type} (cf:β→β→Int) (g:α→β) (out:List α) (x:α):(insS (fun a b=>cf (g a) (g b)) out x).map g=insS cf (out.map g) (g x):=by
 have key:∀ l:List α,(insR (fun a b=>cf (g a) (g b)) x l).map g=insR cf (g x) (l.map g):=by
  intro l
  induction l with
  | nil=>rfl
  | cons y ys ih =>
   show (if 0<cf (g y) (g x) then y :: insR (fun a b=>cf (g a) (g b)) x ys else x :: y :: ys).map g=if 0<cf (g y) (g x) then g y :: insR cf (g x) (ys.map g) else g x :: g y :: ys.map g
   split
   ·rw [List.map_cons,ih]
   ·rfl
 unfold insS
 rw [List.map_reverse,key,List.map_reverse]
theorem sortS_map {α β:Type} (cf:β→β→Int) (g:α→β) (l:List α):(sortS (fun a b=>cf (g a) (g b)) l).map g=sortS cf (l.map g):=by
 have key:∀ (l out:List α),(l.foldl (insS (fun a b=>cf (g a) (g b))) out).map g=(l.map g).foldl (insS cf) (out.map g):=by
  intro l
  induction l with
  | nil=>intro out; rfl
  | cons x l ih=>intro out; rw [List.foldl_cons,ih,insS_map,List.map_cons,List.foldl_cons]
 exact key l []
end Go.Proofs.YtmcoomlkbgiboaaGreatDoor
