/- Comparisons one behind the other, in plain Lean. Conditions: what is asked of each. -/
import Derived.Test.YtmcoomlkbgiboaaGreatDoorK18
import Derived.Test.YtmcoomlkbgiboaaGreatDoorK07
import Derived.Test.YtmcoomlkbgiboaaGreatDoorK04
import Derived.Test.YtmcoomlkbgiboaaGreatDoorK17

set_option linter.all false
namespace Go.Proofs.YtmcoomlkbgiboaaGreatDoor

section
variable {α:Type}
/-- The first comparison that is not nought. -/
def lexC:List (α→α→Int)→α→α→Int
 | [],_,_=>0
 | f :: fs,x,y=>if f x y≠0 then f x y else lexC fs x y
theorem PreO.zero {f:α→α→Int} (h:PreO f) (x y:α):f x y=0↔f y x=0:=by
 have h1:=h.anti x y
 have h2:=h.anti y x
 constructor <;> intro q <;> omega
theorem PreO.lt {f:α→α→Int} (h:PreO f) {x y z:α} (h1:f x y≤0) (h2:f y z<0):f x z<0:=by
 have h3:=h.trans x y z h1 (by omega)
 rcases Int.lt_or_eq_of_le h3 with q | q
 ·exact q
 ·have h4:=h.trans z x y (by rw [(h.zero x z).1 q]; exact Int.le_refl _) h1
  have h5:=(h.anti y z).1 h2
  omega
theorem PreO.lt' {f:α→α→Int} (h:PreO f) {x y z:α} (h1:f x y<0) (h2:f y z≤0):f x z<0:=by
 have h3:=h.trans x y z (by omega) h2
 rcases Int.lt_or_eq_of_le h3 with q | q
 ·exact q
 ·have h4:=h.trans y z x h2 (by rw [(h.zero x z).1 q]; exact Int.le_refl _)
  have h5:=(h.anti x y).1 h1
  omega
theorem lexC_pre:∀ (fs:List (α→α→Int)),(∀ f∈fs,PreO f)→PreO (lexC fs)
 | [],_=>⟨fun x y=>by show (0:Int)<0↔(0:Int)<0; exact Iff.rfl,fun x y z _ _=>Int.le_refl _⟩
 | f :: fs,h=>by
  have hf:=h f (List.mem_cons_self ..)
  have ih:=lexC_pre fs (fun g hg=>h g (List.mem_cons_of_mem _ hg))
  have e:∀ x y,lexC (f :: fs) x y=if f x y≠0 then f x y else lexC fs x y:=fun _ _=>rfl
  refine ⟨fun x y=>?_,fun x y z h1 h2=>?_⟩
  ·rw [e,e]
   by_cases q:f x y=0
   ·have q2:=(hf.zero x y).1 q
    rw [if_neg (by omega),if_neg (by omega)]
    exact ih.anti x y
   ·have q2:f y x≠0:=fun r=>q ((hf.zero x y).2 r)
    rw [if_pos q,if_pos q2]
    exact hf.anti x y
  ·rw [e] at h1 h2 ⊢
   by_cases q1:f x y=0
   ·rw [if_neg (by omega)] at h1
    by_cases q2:f y z=0
    ·rw [if_neg (by omega)] at h2
     have q3:f x z=0:=by
      have a1:=hf.trans x y z (by omega) (by omega)
      have a2:=hf.trans z y x (by rw [(hf.zero y z).1 q2]; exact Int.le_refl _) (by rw [(hf.zero x y).1 q1]; exact Int.le_refl _)
      have a3:=hf.anti x z
      have a4:=hf.anti z x
      omega
     rw [if_neg (by omega)]
     exact ih.trans x y z h1 h2
    ·rw [if_pos q2] at h2
     have:=hf.lt (x:=x) (y:=y) (z:=z) (by omega) (by omega)
     rw [if_pos (by omega)]; omega
   ·rw [if_pos q1] at h1
    have q2:f y z≤0:=by
     by_cases q2:f y z=0
     ·omega
     ·rw [if_pos q2] at h2; exact h2
    have:=hf.lt' (x:=x) (y:=y) (z:=z) (by omega) q2
    rw [if_pos (by omega)]; omega
/-- The comparison of whole numbers. -/
def cmpZ (a b:Int):Int:=if a<b then -1 else if b<a then 1 else 0
theorem cmpZ_pre (f:α→Int):PreO (fun x y=>cmpZ (f x) (f y)):=by
 refine ⟨fun x y=>?_,fun x y z h1 h2=>?_⟩
 ·unfold cmpZ
  split <;> split <;> (try split) <;> omega
 ·unfold cmpZ at *
  split at h1 <;> split at h2 <;> (try split at h1) <;> (try split at h2) <;> split <;> (try split) <;> omega
end
end Go.Proofs.YtmcoomlkbgiboaaGreatDoor

/- Plain law: how texts compare under a collation is a total order. No condition. -/
set_option linter.all false
namespace Go.Proofs.YtmcoomlkbgiboaaGreatDoor
open Go.RowKit

theorem cmpI_self:∀ x:List Int,cmpI x x=0
 | []=>rfl
 | a :: x=>by rw [cmpI,if_neg (by omega),if_neg (by omega),cmpI_self x]
theorem cmpI_neg:∀ x y:List Int,cmpI y x = - cmpI x y
 | [],[]=>rfl
 | [],b :: y=>rfl
 | a :: x,[]=>rfl
 | a :: x,b :: y=>by
  rw [cmpI,cmpI]
  by_cases h:a<b
  ·rw [if_neg (show ¬ b<a by omega),if_pos h,if_pos h]; rfl
  ·by_cases h2:b<a
   ·rw [if_pos h2,if_neg h,if_pos h2]
   ·rw [if_neg h2,if_neg h,if_neg h,if_neg h2,cmpI_neg x y]
theorem cmpI_zero:∀ x y:List Int,cmpI x y=0→x=y
 | [],[],_=>rfl
 | [],b :: y,h=>by cases h
 | a :: x,[],h=>by cases h
 | a :: x,b :: y,h=>by
  rw [cmpI] at h
  split at h
  ·cases h
  split at h
  ·cases h
  ·rw [cmpI_zero x y h,show a=b from by omega]
theorem cmpI_trans:∀ x y z:List Int,cmpI x y≤0→cmpI y z≤0→cmpI x z≤0
 | [],_,[],_,_=>by simp [cmpI]
 | [],_,c :: z,_,_=>by simp [cmpI]
 | a :: x,[],_,h,_=>by simp [cmpI] at h
 | a :: x,b :: y,[],_,h=>by simp [cmpI] at h
 | a :: x,b :: y,c :: z,h1,h2=>by
  rw [cmpI] at h1 h2 ⊢
  by_cases p1:a<b
  ·by_cases p2:b<c
   ·rw [if_pos (by omega)]; omega
   ·rw [if_neg p2] at h2
    by_cases p3:c<b
    ·rw [if_pos p3] at h2; omega
    ·rw [if_pos (by omega)]; omega
  ·rw [if_neg p1] at h1
   by_cases p4:b<a
   ·rw [if_pos p4] at h1; omega
   ·rw [if_neg p4] at h1
    by_cases p2:b<c
    ·rw [if_pos (by omega)]; omega
    ·rw [if_neg p2] at h2
     by_cases p3:c<b
     ·rw [if_pos p3] at h2; omega
     ·rw [if_neg p3] at h2
      rw [if_neg (by omega),if_neg (by omega)]
      exact cmpI_trans x y z h1 h2
theorem bytes_inj:∀ a b:Bs,(a.map fun x=>(x.toNat:Int))=(b.map fun x=>(x.toNat:Int))→a=b
 | [],[],_=>rfl
 | [],b :: y,h=>by cases h
 | a :: x,[],h=>by cases h
 | a :: x,b :: y,h=>by
  simp only [List.map_cons,List.cons.injEq] at h
  rw [bytes_inj x y h.2,UInt8.toNat_inj.1 (Int.ofNat.inj h.1)]
theorem cmpC_self (c:ColT) (a:Bs):cmpC c a a=0:=by unfold cmpC cmpB; rw [cmpI_self,if_neg (by simp),cmpI_self]
theorem cmpC_neg (c:ColT) (a b:Bs):cmpC c b a = - cmpC c a b:=by
 unfold cmpC cmpB
 rw [cmpI_neg (keyI c a) (keyI c b),cmpI_neg (a.map fun x=>(x.toNat:Int)) (b.map fun x=>(x.toNat:Int))]
 by_cases h:cmpI (keyI c a) (keyI c b)=0
 ·rw [if_neg (by omega),if_neg (by omega)]
 ·rw [if_pos (by omega),if_pos (by omega)]
theorem cmpC_zero (c:ColT) (a b:Bs):cmpC c a b=0↔a=b:=by
 constructor
 ·intro h
  unfold cmpC at h
  split at h
  ·rename_i q; exact absurd h q
  ·exact bytes_inj a b (cmpI_zero _ _ h)
 ·rintro rfl; exact cmpC_self c a
theorem cmpC_trans (c:ColT) (a b d:Bs) (h1:cmpC c a b≤0) (h2:cmpC c b d≤0):cmpC c a d≤0:=by
 unfold cmpC at h1 h2 ⊢
 have t1:=cmpI_trans (keyI c a) (keyI c b) (keyI c d)
 have t2:=cmpI_trans (a.map fun x=>(x.toNat:Int)) (b.map fun x=>(x.toNat:Int)) (d.map fun x=>(x.toNat:Int))
 by_cases k1:cmpI (keyI c a) (keyI c b)=0
 ·rw [if_neg (by simpa using k1)] at h1
  have e1:=cmpI_zero _ _ k1
  rw [e1]
  by_cases k2:cmpI (keyI c b) (keyI c d)=0
  ·rw [if_neg (by simpa using k2)] at h2 ⊢
   exact t2 h1 h2
  ·rw [if_pos k2] at h2 ⊢
   exact h2
 ·rw [if_pos k1] at h1
  by_cases k2:cmpI (keyI c b) (keyI c d)=0
  ·have e2:=cmpI_zero _ _ k2
   rw [← e2,if_pos k1]
   exact h1
  ·rw [if_pos k2] at h2
   have h3:=t1 h1 h2
   by_cases k3:cmpI (keyI c a) (keyI c d)=0
   ·exfalso
    have e3:=cmpI_zero _ _ k3
    rw [e3] at h1
    have:=cmpI_neg (keyI c b) (keyI c d)
    omega
   ·rw [if_pos k3]; exact h3
theorem cmpI_at (x y:List Int) (k:Nat) (hx:k<x.length) (hy:k<y.length):cmpI (x.drop k) (y.drop k)=if x[k]<y[k] then -1 else if y[k]<x[k] then 1 else cmpI (x.drop (k+1)) (y.drop (k+1)):=by
 rw [List.drop_eq_getElem_cons hx,List.drop_eq_getElem_cons hy,cmpI]
theorem cmpI_end (x y:List Int) (k:Nat) (hk:k≤x.length) (hk2:k≤y.length) (h:¬ (k<x.length∧k<y.length)):cmpI (x.drop k) (y.drop k)=if x.length<y.length then -1 else if y.length<x.length then 1 else 0:=by
 by_cases h1:k<x.length
 ·have h2:y.length=k:=by omega
  rw [List.drop_of_length_le (l:=y) (by omega),List.drop_eq_getElem_cons h1,if_neg (by omega),if_pos (by omega)]; rfl
 ·rw [List.drop_of_length_le (l:=x) (by omega)]
  by_cases h2:k<y.length
  ·rw [List.drop_eq_getElem_cons h2,if_pos (by omega)]; rfl
  ·rw [List.drop_of_length_le (l:=y) (by omega),if_neg (by omega),if_neg (by omega)]; rfl
end Go.Proofs.YtmcoomlkbgiboaaGreatDoor

/- What sources are sorted by, in plain Lean. No condition. -/
set_option linter.all false
namespace Go.Proofs.YtmcoomlkbgiboaaGreatDoor
open Go.RowKit

structure KeyT where
 author:Bs
 year:Int
 title:Bs
 key:Bs
def wAuthor:Bs:=[97,117,116,104,111,114]
def wYear:Bs:=[121,101,97,114]
def wTitle:Bs:=[116,105,116,108,101]
def wordC (c:ColT) (w:Bs) (x y:KeyT):Int:=if w=wAuthor then cmpC c x.author y.author else if w=wYear then cmpZ x.year y.year else if w=wTitle then cmpC c x.title y.title else cmpB x.key y.key
def cfW (c:ColT) (ws:List Bs):KeyT→KeyT→Int:=lexC (ws.map (wordC c))
theorem pre_of_neg {α:Type} {f:α→α→Int} (h1:∀ x y,f y x = - f x y) (h2:∀ x y z,f x y≤0→f y z≤0→f x z≤0):PreO f:=⟨fun x y=>by have:=h1 x y; omega,h2⟩
theorem wordC_pre (c:ColT) (w:Bs):PreO (wordC c w):=by
 by_cases h1:w=wAuthor
 ·have e:wordC c w=fun x y=>cmpC c x.author y.author:=by funext x y; unfold wordC; rw [if_pos h1]
  rw [e]
  exact pre_of_neg (fun x y=>cmpC_neg c _ _) (fun x y z=>cmpC_trans c _ _ _)
 by_cases h2:w=wYear
 ·have e:wordC c w=fun x y=>cmpZ x.year y.year:=by funext x y; unfold wordC; rw [if_neg h1,if_pos h2]
  rw [e]
  exact cmpZ_pre _
 by_cases h3:w=wTitle
 ·have e:wordC c w=fun x y=>cmpC c x.title y.title:=by funext x y; unfold wordC; rw [if_neg h1,if_neg h2,if_pos h3]
  rw [e]
  exact pre_of_neg (fun x y=>cmpC_neg c _ _) (fun x y z=>cmpC_trans c _ _ _)
 ·have e:wordC c w=fun x y=>cmpB x.key y.key:=by funext x y; unfold wordC; rw [if_neg h1,if_neg h2,if_neg h3]
  rw [e]
  exact pre_of_neg (fun x y=>cmpI_neg _ _) (fun x y z=>cmpI_trans _ _ _)
theorem cfW_pre (c:ColT) (ws:List Bs):PreO (cfW c ws):=lexC_pre _ (fun f hf=>by
 obtain ⟨w,_,rfl⟩:=List.mem_map.1 hf
 exact wordC_pre c w)
theorem cfW_self (c:ColT) (ws:List Bs) (x:KeyT):cfW c ws x x=0:=by
 have h:=(cfW_pre c ws).anti x x
 omega
theorem cfW_cons (c:ColT) (w:Bs) (ws:List Bs) (x y:KeyT):cfW c (w :: ws) x y=if wordC c w x y≠0 then wordC c w x y else cfW c ws x y:=rfl
theorem cfW_drop {c:ColT} {ws:List Bs} {k:Nat} {w:Bs} (h:ws[k]? = some w) (x y:KeyT):cfW c (ws.drop k) x y=if wordC c w x y≠0 then wordC c w x y else cfW c (ws.drop (k+1)) x y:=by
 obtain ⟨hk,rfl⟩:=List.getElem?_eq_some_iff.1 h
 rw [List.drop_eq_getElem_cons hk,cfW_cons]
/-- Sorting what has a comparison by another's image. -/
theorem pre_map {α β:Type} {f:β→β→Int} (g:α→β) (h:PreO f):PreO (fun x y=>f (g x) (g y)):=⟨fun x y=>h.anti (g x) (g y),fun x y z=>h.trans (g x) (g y) (g z)⟩
theorem insS_map {α β:Type} (cf:β→β→Int) (g:α→β) (out:List α) (x:α):(insS (fun a b=>cf (g a) (g b)) out x).map g=insS cf (out.map g) (g x):=by
 have key:∀ l:List α,(insR (fun a b=>cf (g a) (g b)) x l).map g=insR cf (g x) (l.map g):=by
  intro l
  induction l with
  | nil=>rfl
  | cons y ys ih =>
   show (if 0<cf (g y) (g x) then y :: insR (fun a b=>cf (g a) (g b)) x ys else x :: y :: ys).map g=if 0<cf (g y) (g x) then g y :: insR cf (g x) (ys.map g) else g x :: g y :: ys.map g
   split
   ·rw [List.map_cons,ih]
   ·rfl
 unfold insS
 rw [List.map_reverse,key,List.map_reverse]
theorem sortS_map {α β:Type} (cf:β→β→Int) (g:α→β) (l:List α):(sortS (fun a b=>cf (g a) (g b)) l).map g=sortS cf (l.map g):=by
 have key:∀ (l out:List α),(l.foldl (insS (fun a b=>cf (g a) (g b))) out).map g=(l.map g).foldl (insS cf) (out.map g):=by
  intro l
  induction l with
  | nil=>intro out; rfl
  | cons x l ih=>intro out; rw [List.foldl_cons,ih,insS_map,List.map_cons,List.foldl_cons]
 exact key l []
end Go.Proofs.YtmcoomlkbgiboaaGreatDoor

/- Sources with what they are sorted by, in memory. No condition. -/
set_option linter.all false
namespace Go.Proofs.YtmcoomlkbgiboaaGreatDoor
open Go.RowKit

theorem Perss.sam {S:Nat→Prop} {w w':World} {v:Value} {xs:List P4} (h:Perss w v xs) (hi:InB S v xs.length) (k:Sam S w w'):Perss w' v xs:=by
 obtain ⟨a,c,hv,hc,h3⟩:=h
 refine ⟨a,c,hv,hc,fun q=>?_⟩
 obtain ⟨g,o,ha,hg,hcell⟩:=h3 q
 have hs:S g:=hi q g (by rw [hv,ha]; rfl)
 refine ⟨g,o,ha,k.lt hg hs,fun j x hx=>?_⟩
 rw [k.cell _ hg hs,k.cell _ hg hs,k.cell _ hg hs,k.cell _ hg hs]
 exact hcell j x hx
theorem Perss.ltB {w:World} {v:Value} {xs:List P4} (h:Perss w v xs):InB (fun g=>g<w.heap.size) v xs.length:=fun q g hg=>by
 obtain ⟨a,c,hv,hc,h3⟩:=h
 obtain ⟨g',o,ha,hgg,_⟩:=h3 q
 rw [hv,ha] at hg
 have:g'=g:=by simpa [Value.ownBlock] using hg
 omega
theorem Perss.shape {w:World} {v:Value} {xs:List P4} (h:Perss w v xs):∃ a c,v=.slice a xs.length c∧xs.length≤c:=by obtain ⟨a,c,e,l,_⟩:=h; exact ⟨a,c,e,l⟩
theorem Perss.at_ {w:World} {a:Option Addr} {n c:Nat} {ps:List P4} (h:Perss w (.slice a n c) ps) (j:Nat) (q:P4) (hq:ps[j]? = some q) :
  ∃ g o,a=some ⟨g,o,none⟩∧g<w.heap.size∧w.cell? ⟨g,o+j * 4,none⟩=some (.string (bs q.1))∧w.cell? ⟨g,o+j * 4+1,none⟩=some (.string (bs q.2.1))∧w.cell? ⟨g,o+j * 4+2,none⟩=some (.string (bs q.2.2.1))∧w.cell? ⟨g,o+j * 4+3,none⟩=some (.string (bs q.2.2.2)):=by
 obtain ⟨a',c',hv,hc,h3⟩:=h
 obtain ⟨rfl,rfl,rfl⟩:=Value.slice.inj hv
 obtain ⟨hk,_⟩:=List.getElem?_eq_some_iff.1 hq
 obtain ⟨g,o,ha,hg,hcell⟩:=h3 (by omega)
 exact ⟨g,o,ha,hg,hcell j q hq⟩
/-- A source's lists, in blocks of S. -/
def SrcL (S:Nat→Prop) (w:World) (vA vE vF:Value) (x:SrcT):Prop:=(Perss w vA x.author∧InB S vA x.author.length)∧(Perss w vE x.editor∧InB S vE x.editor.length)∧(Prs w vF x.fields∧InB S vF x.fields.length)
theorem SrcL.sam {S S':Nat→Prop} {w w':World} {vA vE vF:Value} {x:SrcT} (h:SrcL S w vA vE vF x) (k:Sam S w w') (hS:∀ g,g<w.heap.size→S g→S' g):SrcL S' w' vA vE vF x:=by
 obtain ⟨⟨a1,a2⟩,⟨b1,b2⟩,c1,c2⟩:=h
 exact ⟨⟨a1.sam a2 k,a2.mono fun g hg q r=>hS g (a1.ltB q g hg) r⟩,⟨b1.sam b2 k,b2.mono fun g hg q r=>hS g (b1.ltB q g hg) r⟩,c1.sam c2 k,c2.mono fun g hg q r=>hS g (c1.ltB q g hg) r⟩
/-- Five cells read as a source. -/
def SrcK (S:Nat→Prop) (w:World) (cs:List Value) (x:SrcT):Prop:=∃ vA vE vF,cs=[.string (bs x.key),.string (bs x.type),vA,vE,vF]∧SrcL S w vA vE vF x
theorem srcK:ReadK SrcK:=⟨fun ⟨vA,vE,vF,h1,h2⟩ k hS=>⟨vA,vE,vF,h1,h2.sam k hS⟩,fun ⟨vA,vE,vF,h1,h2⟩ u hu=>by
 obtain ⟨⟨a1,_⟩,⟨b1,_⟩,c1,_⟩:=h2
 obtain ⟨a,c,rfl,_⟩:=a1
 obtain ⟨a,c,rfl,_⟩:=b1
 obtain ⟨a,c,rfl,_⟩:=c1
 rw [h1] at hu
 simp only [List.mem_cons,List.not_mem_nil,or_false] at hu
 rcases hu with rfl | rfl | rfl | rfl | rfl <;> rfl⟩
/-- What a source is sorted by, and the source. -/
structure SorT where
 k:KeyT
 src:SrcT
def sorC (x:SorT) (vA vE vF:Value):List Value:=[.string (bs x.k.author),.int .i64 x.k.year,.string (bs x.k.title),.string (bs x.k.key),.string (bs x.src.key),.string (bs x.src.type),vA,vE,vF]
def SorK (S:Nat→Prop) (w:World) (cs:List Value) (x:SorT):Prop:=∃ vA vE vF,cs=sorC x vA vE vF∧SrcL S w vA vE vF x.src
theorem sorK:ReadK SorK:=⟨fun ⟨vA,vE,vF,h1,h2⟩ k hS=>⟨vA,vE,vF,h1,h2.sam k hS⟩,fun ⟨vA,vE,vF,h1,h2⟩ u hu=>by
 obtain ⟨⟨a1,_⟩,⟨b1,_⟩,c1,_⟩:=h2
 obtain ⟨a,c,rfl,_⟩:=a1
 obtain ⟨a,c,rfl,_⟩:=b1
 obtain ⟨a,c,rfl,_⟩:=c1
 rw [h1] at hu
 simp only [sorC,List.mem_cons,List.not_mem_nil,or_false] at hu
 rcases hu with rfl | rfl | rfl | rfl | rfl | rfl | rfl | rfl | rfl <;> rfl⟩
end Go.Proofs.YtmcoomlkbgiboaaGreatDoor
