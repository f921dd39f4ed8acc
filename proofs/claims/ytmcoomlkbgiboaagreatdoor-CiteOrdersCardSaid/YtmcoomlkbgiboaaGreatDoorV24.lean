/- Plain law: how texts compare under a collation is a total order. No condition. -/
import Derived.Test.YtmcoomlkbgiboaaGreatDoorV13
import Derived.Test.YtmcoomlkbgiboaaGreatDoorV23
import Derived.Test.YtmcoomlkbgiboaaGreatDoorV07
import Derived.Test.YtmcoomlkbgiboaaGreatDoorV11
set_option linter.all false
namespace Go.Proofs.YtmcoomlkbgiboaaGreatDoor
open Go.RowKit
theorem ziO:∀ x:List Int,zeG x x=0
 | []=>rfl
 | a :: x=>by rw[zeG,if_neg (by omega),if_neg (by omega),ziO x]
theorem ziP:∀ x y:List Int,zeG y x = - zeG x y
 | [],[]=>rfl
 | [],b :: y=>rfl
 | a :: x,[]=>rfl
 | a :: x,b :: y=>by
  rw[zeG,zeG];by_cases h:a<b
  ·rw[if_neg (show ¬ b<a by omega),if_pos h,if_pos h];rfl
  ·by_cases h2:b<a
   ·rw[if_pos h2,if_neg h,if_pos h2]
   ·rw[if_neg h2,if_neg h,if_neg h,if_neg h2,ziP x y]
theorem zg4:∀ x y:List Int,zeG x y = -1\/zeG x y=0\/zeG x y=1
 | [],[]=>.inr (.inl rfl)
 | [],b :: y=>.inl rfl
 | a :: x,[]=>.inr (.inr rfl)
 | a :: x,b :: y=>by
  rw[zeG]
  split
  ·exact .inl rfl
  split
  ·exact .inr (.inr rfl)
  ·exact zg4 x y
theorem zfC:∀ x y:List Int,zeG x y=0->x=y
 | [],[],_=>rfl
 | [],b :: y,h=>by cases h
 | a :: x,[],h=>by cases h
 | a :: x,b :: y,h=>by
  rw[zeG] at h
  split at h
  ·cases h
  split at h
  ·cases h
  ·rw[zfC x y h,show a=b from by omega]
theorem zg5:∀ x y z:List Int,zeG x y<=0->zeG y z<=0->zeG x z<=0
 | [],_,[],_,_=>by simp [zeG]
 | [],_,c :: z,_,_=>by simp [zeG]
 | a :: x,[],_,h,_=>by simp [zeG] at h
 | a :: x,b :: y,[],_,h=>by simp [zeG] at h
 | a :: x,b :: y,c :: z,h1,h2=>by
  rw[zeG] at h1 h2 ⊢;by_cases p1:a<b
  ·by_cases p2:b<c
   ·rw[if_pos (by omega)];omega
   ·rw[if_neg p2] at h2;by_cases p3:c<b
    ·rw[if_pos p3] at h2;omega
    ·rw[if_pos (by omega)];omega
  ·rw[if_neg p1] at h1;by_cases p4:b<a
   ·rw[if_pos p4] at h1;omega
   ·rw[if_neg p4] at h1;by_cases p2:b<c
    ·rw[if_pos (by omega)];omega
    ·rw[if_neg p2] at h2;by_cases p3:c<b
     ·rw[if_pos p3] at h2;omega
     ·rw[if_neg p3] at h2;rw[if_neg (by omega),if_neg (by omega)];exact zg5 x y z h1 h2
theorem zl8:∀ a b:Bs,(a.map fun x=>(x.toNat:Int))=(b.map fun x=>(x.toNat:Int))->a=b
 | [],[],_=>rfl
 | [],b :: y,h=>by cases h
 | a :: x,[],h=>by cases h
 | a :: x,b :: y,h=>by
  simp only[List.map_cons,List.cons.injEq] at h;rw[zl8 x y h.2,UInt8.toNat_inj.1 (Int.ofNat.inj h.1)]
theorem zzX (c:ColT) (a:Bs):zgV c a a=0:=by unfold zgV zkJ;rw[ziO,if_neg (by simp),ziO]
theorem zuX (c:ColT) (a b:Bs):zgV c b a = - zgV c a b:=by
 unfold zgV zkJ;rw[ziP (zdT c a) (zdT c b),ziP (a.map fun x=>(x.toNat:Int)) (b.map fun x=>(x.toNat:Int))];by_cases h:zeG (zdT c a) (zdT c b)=0
 ·rw[if_neg (by omega),if_neg (by omega)]
 ·rw[if_pos (by omega),if_pos (by omega)]
theorem zzY (c:ColT) (a b:Bs):zgV c a b=0↔a=b:=by
 constructor
 ·intro h;unfold zgV at h
  split at h
  ·rename_i q;exact absurd h q
  ·exact zl8 a b (zfC _ _ h)
 ·rintro rfl;exact zzX c a
theorem zn6 (c:ColT) (a b:Bs):zgV c a b = -1\/zgV c a b=0\/zgV c a b=1:=by
 unfold zgV
 split
 ·exact zg4 _ _
 ·exact zg4 _ _
theorem zn7 (c:ColT) (a b d:Bs) (h1:zgV c a b<=0) (h2:zgV c b d<=0):zgV c a d<=0:=by
 unfold zgV at h1 h2 ⊢;have t1:=zg5 (zdT c a) (zdT c b) (zdT c d);have t2:=zg5 (a.map fun x=>(x.toNat:Int)) (b.map fun x=>(x.toNat:Int)) (d.map fun x=>(x.toNat:Int));by_cases k1:zeG (zdT c a) (zdT c b)=0
 ·rw[if_neg (by simpa using k1)] at h1;have e1:=zfC _ _ k1;rw[e1];by_cases k2:zeG (zdT c b) (zdT c d)=0
  ·rw[if_neg (by simpa using k2)] at h2 ⊢;exact t2 h1 h2
  ·rw[if_pos k2] at h2 ⊢;exact h2
 ·rw[if_pos k1] at h1;by_cases k2:zeG (zdT c b) (zdT c d)=0
  ·have e2:=zfC _ _ k2;rw[<- e2,if_pos k1];exact h1
  ·rw[if_pos k2] at h2;have h3:=t1 h1 h2;by_cases k3:zeG (zdT c a) (zdT c d)=0
   ·exfalso;have e3:=zfC _ _ k3;rw[e3] at h1;have:=ziP (zdT c b) (zdT c d);omega
   ·rw[if_pos k3];exact h3
theorem zzZ (x y:List Int) (k:Nat) (hx:k<x.length) (hy:k<y.length):zeG (x.drop k) (y.drop k)=if x[k]<y[k] then -1 else if y[k]<x[k] then 1 else zeG (x.drop (k+1)) (y.drop (k+1)):=by
 rw[List.drop_eq_getElem_cons hx,List.drop_eq_getElem_cons hy,zeG]
theorem zuY (x y:List Int) (k:Nat) (hk:k<=x.length) (hk2:k<=y.length) (h:¬ (k<x.length/\k<y.length)):zeG (x.drop k) (y.drop k)=if x.length<y.length then -1 else if y.length<x.length then 1 else 0:=by
 by_cases h1:k<x.length
 ·have h2:y.length=k:=(by omega);rw[List.drop_of_length_le (l:=y) (by omega),List.drop_eq_getElem_cons h1,if_neg (by omega),if_pos (by omega)];rfl
 ·rw[List.drop_of_length_le (l:=x) (by omega)];by_cases h2:k<y.length
  ·rw[List.drop_eq_getElem_cons h2,if_pos (by omega)];rfl
  ·rw[List.drop_of_length_le (l:=y) (by omega),if_neg (by omega),if_neg (by omega)];rfl
structure KeyT where
 author:Bs
 year:Int
 title:Bs
 key:Bs
def zeT:Bs:=[97,117,116,104,111,114]
def znG:Bs:=[121,101,97,114]
def zb1:Bs:=[116,105,116,108,101]
def zb8 (c:ColT) (w:Bs) (x y:KeyT):Int:=if w=zeT then zgV c x.author y.author else if w=znG then zBj x.year y.year else if w=zb1 then zgV c x.title y.title else zkJ x.key y.key
def cfW (c:ColT) (ws:List Bs):KeyT->KeyT->Int:=zE3 (ws.map (zb8 c))
theorem zjL {α:Type} {f:α->α->Int} (h1:∀ x y,f y x = - f x y) (h2:∀ x y z,f x y<=0->f y z<=0->f x z<=0):PreO f:=⟨fun x y=>by have:=h1 x y;omega,h2⟩
theorem zz0 (c:ColT) (w:Bs):PreO (zb8 c w):=by
 by_cases h1:w=zeT
 ·have e:zb8 c w=fun x y=>zgV c x.author y.author:=(by funext x y;unfold zb8;rw[if_pos h1]);rw[e];exact zjL (fun x y=>zuX c _ _) (fun x y z=>zn7 c _ _ _)
 by_cases h2:w=znG
 ·have e:zb8 c w=fun x y=>zBj x.year y.year:=(by funext x y;unfold zb8;rw[if_neg h1,if_pos h2]);rw[e];exact zB9 _
 by_cases h3:w=zb1
 ·have e:zb8 c w=fun x y=>zgV c x.title y.title:=(by funext x y;unfold zb8;rw[if_neg h1,if_neg h2,if_pos h3]);rw[e];exact zjL (fun x y=>zuX c _ _) (fun x y z=>zn7 c _ _ _)
 ·have e:zb8 c w=fun x y=>zkJ x.key y.key:=(by funext x y;unfold zb8;rw[if_neg h1,if_neg h2,if_neg h3]);rw[e];exact zjL (fun x y=>ziP _ _) (fun x y z=>zg5 _ _ _)
theorem zz1 (c:ColT) (ws:List Bs):PreO (cfW c ws):=zuW _ (fun f hf=>by
 obtain ⟨w,_,rfl⟩:=List.mem_map.1 hf;exact zz0 c w)
theorem zCa (c:ColT) (ws:List Bs) (x:KeyT):cfW c ws x x=0:=by
 have h:=(zz1 c ws).anti x x;omega
theorem zCb (c:ColT) (w:Bs) (ws:List Bs) (x y:KeyT):cfW c (w :: ws) x y=if zb8 c w x y≠0 then zb8 c w x y else cfW c ws x y:=rfl
theorem zuZ {c:ColT} {ws:List Bs} {k:Nat} {w:Bs} (h:ws[k]? = some w) (x y:KeyT):cfW c (ws.drop k) x y=if zb8 c w x y≠0 then zb8 c w x y else cfW c (ws.drop (k+1)) x y:=by
 obtain ⟨hk,rfl⟩:=List.getElem?_eq_some_iff.1 h;rw[List.drop_eq_getElem_cons hk,zCb]
theorem zD9 {α β:Type} {f:β->β->Int} (g:α->β) (h:PreO f):PreO (fun x y=>f (g x) (g y)):=⟨fun x y=>h.anti (g x) (g y),fun x y z=>h.trans (g x) (g y) (g z)⟩
theorem zCc {α β:Type} (cf:β->β->Int) (g:α->β) (out:List α) (x:α):(zrB (fun a b=>cf (g a) (g b)) out x).map g=zrB cf (out.map g) (g x):=by
 have key:∀ l:List α,(zxP (fun a b=>cf (g a) (g b)) x l).map g=zxP cf (g x) (l.map g):=by
  intro l
  induction l with
  | nil=>rfl
  | cons y ys ih =>
   show (if 0<cf (g y) (g x) then y :: zxP (fun a b=>cf (g a) (g b)) x ys else x :: y :: ys).map g=if 0<cf (g y) (g x) then g y :: zxP cf (g x) (ys.map g) else g x :: g y :: ys.map g
   split
   ·rw[List.map_cons,ih]
   ·rfl
 unfold zrB;rw[List.map_reverse,key,List.map_reverse]
theorem zz2 {α β:Type} (cf:β->β->Int) (g:α->β) (l:List α):(zkP (fun a b=>cf (g a) (g b)) l).map g=zkP cf (l.map g):=by
 have key:∀ (l out:List α),(l.foldl (zrB (fun a b=>cf (g a) (g b))) out).map g=(l.map g).foldl (zrB cf) (out.map g):=by
  intro l
  induction l with
  | nil=>intro out;rfl
  | cons x l ih=>intro out;rw[List.foldl_cons,ih,zCc,List.map_cons,List.foldl_cons]
 exact key l []
theorem Perss.sam {S:Nat->Prop} {w w':World} {v:Value} {xs:List P4} (h:Perss w v xs) (hi:InB S v xs.length) (k:Sam S w w'):Perss w' v xs:=by
 obtain ⟨a,c,hv,hc,h3⟩:=h;refine ⟨a,c,hv,hc,fun q=>?_⟩;obtain ⟨g,o,ha,hg,hcell⟩:=h3 q;have hs:S g:=hi q g (by rw[hv,ha];rfl);refine ⟨g,o,ha,k.lt hg hs,fun j x hx=>?_⟩;rw[k.cell _ hg hs,k.cell _ hg hs,k.cell _ hg hs,k.cell _ hg hs];exact hcell j x hx
theorem Perss.ltB {w:World} {v:Value} {xs:List P4} (h:Perss w v xs):InB (fun g=>g<w.heap.size) v xs.length:=fun q g hg=>by
 obtain ⟨a,c,hv,hc,h3⟩:=h;obtain ⟨g',o,ha,hgg,_⟩:=h3 q;rw[hv,ha] at hg;have:g'=g:=(by simpa [Value.ownBlock] using hg);omega
theorem Perss.shape {w:World} {v:Value} {xs:List P4} (h:Perss w v xs):∃ a c,v=.slice a xs.length c/\xs.length<=c:=by obtain ⟨a,c,e,l,_⟩:=h;exact ⟨a,c,e,l⟩
theorem Perss.at_ {w:World} {a:Option Addr} {n c:Nat} {ps:List P4} (h:Perss w (.slice a n c) ps) (j:Nat) (q:P4) (hq:ps[j]? = some q) :
  ∃ g o,a=some ⟨g,o,none⟩/\g<w.heap.size/\w.cell? ⟨g,o+j * 4,none⟩=some (.string (bs q.1))/\w.cell? ⟨g,o+j * 4+1,none⟩=some (.string (bs q.2.1))/\w.cell? ⟨g,o+j * 4+2,none⟩=some (.string (bs q.2.2.1))/\w.cell? ⟨g,o+j * 4+3,none⟩=some (.string (bs q.2.2.2)):=by
 obtain ⟨a',c',hv,hc,h3⟩:=h;obtain ⟨rfl,rfl,rfl⟩:=Value.slice.inj hv;obtain ⟨hk,_⟩:=List.getElem?_eq_some_iff.1 hq;obtain ⟨g,o,ha,hg,hcell⟩:=h3 (by omega);exact ⟨g,o,ha,hg,hcell j q hq⟩
def SrcL (S:Nat->Prop) (w:World) (vA vE vF:Value) (x:SrcT):Prop:=(Perss w vA x.author/\InB S vA x.author.length)/\(Perss w vE x.editor/\InB S vE x.editor.length)/\(Prs w vF x.fields/\InB S vF x.fields.length)
theorem SrcL.sam {S S':Nat->Prop} {w w':World} {vA vE vF:Value} {x:SrcT} (h:SrcL S w vA vE vF x) (k:Sam S w w') (hS:∀ g,g<w.heap.size->S g->S' g):SrcL S' w' vA vE vF x:=by
 obtain ⟨⟨a1,a2⟩,⟨b1,b2⟩,c1,c2⟩:=h;exact ⟨⟨a1.sam a2 k,a2.mono fun g hg q r=>hS g (a1.ltB q g hg) r⟩,⟨b1.sam b2 k,b2.mono fun g hg q r=>hS g (b1.ltB q g hg) r⟩,c1.sam c2 k,c2.mono fun g hg q r=>hS g (c1.ltB q g hg) r⟩
def SrcK (S:Nat->Prop) (w:World) (cs:List Value) (x:SrcT):Prop:=∃ vA vE vF,cs=[.string (bs x.key),.string (bs x.type),vA,vE,vF]/\SrcL S w vA vE vF x
theorem zpG:ReadK SrcK:=⟨fun ⟨vA,vE,vF,h1,h2⟩ k hS=>⟨vA,vE,vF,h1,h2.sam k hS⟩,fun ⟨vA,vE,vF,h1,h2⟩ u hu=>by
 obtain ⟨⟨a1,_⟩,⟨b1,_⟩,c1,_⟩:=h2;obtain ⟨a,c,rfl,_⟩:=a1;obtain ⟨a,c,rfl,_⟩:=b1;obtain ⟨a,c,rfl,_⟩:=c1;rw[h1] at hu;simp only[List.mem_cons,List.not_mem_nil,or_false] at hu;rcases hu with rfl|rfl|rfl|rfl|rfl <;> rfl⟩
structure SorT where
 k:KeyT
 src:SrcT
def zEQ (x:SorT) (vA vE vF:Value):List Value:=[.string (bs x.k.author),.int .i64 x.k.year,.string (bs x.k.title),.string (bs x.k.key),.string (bs x.src.key),.string (bs x.src.type),vA,vE,vF]
def SorK (S:Nat->Prop) (w:World) (cs:List Value) (x:SorT):Prop:=∃ vA vE vF,cs=zEQ x vA vE vF/\SrcL S w vA vE vF x.src
theorem zp2:ReadK SorK:=⟨fun ⟨vA,vE,vF,h1,h2⟩ k hS=>⟨vA,vE,vF,h1,h2.sam k hS⟩,fun ⟨vA,vE,vF,h1,h2⟩ u hu=>by
 obtain ⟨⟨a1,_⟩,⟨b1,_⟩,c1,_⟩:=h2;obtain ⟨a,c,rfl,_⟩:=a1;obtain ⟨a,c,rfl,_⟩:=b1;obtain ⟨a,c,rfl,_⟩:=c1;rw[h1] at hu;simp only[zEQ,List.mem_cons,List.not_mem_nil,or_false] at hu;rcases hu with rfl|rfl|rfl|rfl|rfl|rfl|rfl|rfl|rfl <;> rfl⟩
theorem Strs.outO {base:Nat} {A:Nat->Prop} {w:World} {v:Value} {xs:List Bs} (h:OutG StrK 1 A base 9 w v xs):Strs w v xs:=by
 obtain ⟨css,h1,h2,ho,h4⟩:=h;have e:css.flatten=zaF xs:=by
  clear ho
  induction css generalizing xs with
  | nil=>cases xs with
   | nil=>rfl
   | cons _ _=>simp at h1
  | cons c css ih =>
   cases xs with
   | nil=>simp at h1
   | cons x xs =>
    have hc:=h4 0 c x rfl rfl;unfold StrK at hc;subst hc;have:=ih (xs:=xs) (by simpa using h1) (fun cs h=>h2 cs (List.mem_cons_of_mem _ h)) (fun j cs x hc hx=>h4 (j+1) cs x (by simpa using hc) (by simpa using hx));rw[List.flatten_cons,this];rfl
 rw[e] at ho;exact Strs.own ho
theorem zkQ {p:Prop} (h:Hid p):p:=h.out
end Go.Proofs.YtmcoomlkbgiboaaGreatDoor
