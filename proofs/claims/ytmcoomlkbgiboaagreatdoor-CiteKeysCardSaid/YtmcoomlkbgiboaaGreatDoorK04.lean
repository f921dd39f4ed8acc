/- Documents in memory: inlines and blocks behind slices, and what stands of them when other blocks of memory change. No condition. -/
import Derived.Test.YtmcoomlkbgiboaaGreatDoorK01
import Derived.Test.YtmcoomlkbgiboaaGreatDoorK02
import Derived.Test.YtmcoomlkbgiboaaGreatDoorK03
import Derived.Deep.AppendLies

set_option linter.all false
namespace Go.Proofs.YtmcoomlkbgiboaaGreatDoor
open Go.RowKit

/-- A part of a citation. -/
structure Cit where
 key:Bs
 pre:Bs
 suf:Bs
 bare:Bool
/-- An inline. -/
inductive Inl where
 | mk (kind:Int) (text dest title id:Bs) (cls:List Bs) (prs:List Pr) (args:List Bs) (cits:List Cit) (kids:List Inl)
def Inl.kind:Inl→Int | .mk k _ _ _ _ _ _ _ _ _=>k
def Inl.text:Inl→Bs | .mk _ k _ _ _ _ _ _ _ _=>k
def Inl.dest:Inl→Bs | .mk _ _ k _ _ _ _ _ _ _=>k
def Inl.title:Inl→Bs | .mk _ _ _ k _ _ _ _ _ _=>k
def Inl.id:Inl→Bs | .mk _ _ _ _ k _ _ _ _ _=>k
def Inl.cls:Inl→List Bs | .mk _ _ _ _ _ k _ _ _ _=>k
def Inl.prs:Inl→List Pr | .mk _ _ _ _ _ _ k _ _ _=>k
def Inl.args:Inl→List Bs | .mk _ _ _ _ _ _ _ k _ _=>k
def Inl.cits:Inl→List Cit | .mk _ _ _ _ _ _ _ _ k _=>k
def Inl.kids:Inl→List Inl | .mk _ _ _ _ _ _ _ _ _ k=>k
/-- A block. -/
inductive Blo where
 | mk (kind level:Int) (info text dest title id:Bs) (cls:List Bs) (prs:List Pr) (line:List Inl) (kids:List Blo)
def Blo.kind:Blo→Int | .mk k _ _ _ _ _ _ _ _ _ _=>k
def Blo.level:Blo→Int | .mk _ k _ _ _ _ _ _ _ _ _=>k
def Blo.info:Blo→Bs | .mk _ _ k _ _ _ _ _ _ _ _=>k
def Blo.text:Blo→Bs | .mk _ _ _ k _ _ _ _ _ _ _=>k
def Blo.dest:Blo→Bs | .mk _ _ _ _ k _ _ _ _ _ _=>k
def Blo.title:Blo→Bs | .mk _ _ _ _ _ k _ _ _ _ _=>k
def Blo.id:Blo→Bs | .mk _ _ _ _ _ _ k _ _ _ _=>k
def Blo.cls:Blo→List Bs | .mk _ _ _ _ _ _ _ k _ _ _=>k
def Blo.prs:Blo→List Pr | .mk _ _ _ _ _ _ _ _ k _ _=>k
def Blo.line:Blo→List Inl | .mk _ _ _ _ _ _ _ _ _ k _=>k
def Blo.kids:Blo→List Blo | .mk _ _ _ _ _ _ _ _ _ _ k=>k

/-- Every block of S is as it was. -/
def Sam (S:Nat→Prop) (w w':World):Prop:=∀ g,g<w.heap.size→S g→w'.heap[g]? = w.heap[g]?
theorem Sam.lt {S:Nat→Prop} {w w':World} (h:Sam S w w') {g:Nat} (hg:g<w.heap.size) (hs:S g):g<w'.heap.size:=by
 rcases Nat.lt_or_ge g w'.heap.size with q | q
 ·exact q
 ·have:=h g hg hs
  rw [Array.getElem?_eq_none q,Array.getElem?_eq_getElem hg] at this
  cases this
theorem Sam.cell {S:Nat→Prop} {w w':World} (h:Sam S w w') {g:Nat} (o:Nat) (hg:g<w.heap.size) (hs:S g):w'.cell? ⟨g,o,none⟩=w.cell? ⟨g,o,none⟩:=World.cell?_of_block (a:=⟨g,o,none⟩) (h g hg hs)
theorem Sam.only {S T:Nat→Prop} {w w':World} (k:Only T w w') (hs:∀ g,g<w.heap.size→S g→¬ T g):Sam S w w':=fun g hg h=>k.block g hg (hs g hg h)
theorem Sam.kept {S:Nat→Prop} {w w':World} (k:Kept w w'):Sam S w w':=fun g hg _=>k.block g hg
/-- The slice v of n elements lies, if it has any, in a block of S. -/
def InB (S:Nat→Prop) (v:Value) (n:Nat):Prop:=0<n→∀ g,v.ownBlock=some g→S g
theorem InB.mono {S S':Nat→Prop} {v:Value} {n:Nat} (h:InB S v n) (k:∀ g,v.ownBlock=some g→0<n→S g→S' g):InB S' v n:=fun q g hg=>k g hg q (h q g hg)
theorem InB.nil (S:Nat→Prop) (v:Value):InB S v 0:=fun q=>absurd q (Nat.lt_irrefl 0)
/-- A slice whose element j is a run of k cells of which R tells the reading; its block is of S. -/
def RowR {α:Type} (S:Nat→Prop) (k:Nat) (R:List Value→α→Prop) (w:World) (v:Value) (xs:List α):Prop :=
 ∃ a c,v=.slice a xs.length c∧xs.length≤c∧(0<xs.length→∃ g o,a=some ⟨g,o,none⟩∧g<w.heap.size∧S g ∧
  ∀ j x,xs[j]? = some x→∃ cs:List Value,cs.length=k∧(∀ i u,cs[i]? = some u→w.cell? ⟨g,o+j * k+i,none⟩=some u)∧R cs x)
section
variable {α:Type} {S S' T:Nat→Prop} {k:Nat} {R R':List Value→α→Prop} {w w':World} {v:Value} {xs:List α}
theorem RowR.form (h:RowR S k R w v xs):∃ a c,v=.slice a xs.length c∧xs.length≤c:=by
 obtain ⟨a,c,hv,hc,_⟩:=h; exact ⟨a,c,hv,hc⟩
theorem RowR.at_ {a:Option Addr} {n c:Nat} (h:RowR S k R w (.slice a n c) xs) (j:Nat) (x:α) (hx:xs[j]? = some x) :
  ∃ g o cs,a=some ⟨g,o,none⟩∧g<w.heap.size∧S g∧cs.length=k∧(∀ i u,cs[i]? = some u→w.cell? ⟨g,o+j * k+i,none⟩=some u)∧R cs x∧n=xs.length∧xs.length≤c:=by
 obtain ⟨a',c',hv,hc,h3⟩:=h
 obtain ⟨rfl,rfl,rfl⟩:=Value.slice.inj hv
 obtain ⟨hk,_⟩:=List.getElem?_eq_some_iff.1 hx
 obtain ⟨g,o,ha,hg,hS,hcell⟩:=h3 (by omega)
 obtain ⟨cs,h1,h2,h3⟩:=hcell j x hx
 exact ⟨g,o,cs,ha,hg,hS,h1,h2,h3,rfl,hc⟩
theorem RowR.step (h:RowR S k R w v xs) (hb:Sam S w w') (hS:∀ g,g<w.heap.size→S g→S' g) (hR:∀ cs x,x∈xs→R cs x→R' cs x):RowR S' k R' w' v xs:=by
 obtain ⟨a,c,hv,hc,h3⟩:=h
 refine ⟨a,c,hv,hc,fun q=>?_⟩
 obtain ⟨g,o,ha,hg,hs,hcell⟩:=h3 q
 refine ⟨g,o,ha,hb.lt hg hs,hS g hg hs,fun j x hx=>?_⟩
 obtain ⟨cs,h1,h2,h4⟩:=hcell j x hx
 exact ⟨cs,h1,fun i u hu=>(hb.cell _ hg hs).trans (h2 i u hu),hR cs x (List.mem_of_getElem? hx) h4⟩
theorem RowR.none_ (S:Nat→Prop) (k:Nat) (R:List Value→α→Prop) (w:World):RowR S k R w (.slice none 0 0) []:=⟨none,0,rfl,Nat.le_refl _,fun q=>absurd q (by simp)⟩
theorem flat_at {k:Nat}:∀ (css:List (List Value)),(∀ cs∈css,cs.length=k)→∀ (j:Nat) (cs:List Value),css[j]? = some cs→∀ i u,cs[i]? = some u→css.flatten[j * k+i]? = some u
 | [],_,_,_,h,_,_,_=>by cases h
 | c :: css,hl,0,cs,h,i,u,hu=>by
  cases h
  rw [List.flatten_cons,Nat.zero_mul,Nat.zero_add,List.getElem?_append_left (List.getElem?_eq_some_iff.1 hu).1]; exact hu
 | c :: css,hl,j+1,cs,h,i,u,hu=>by
  have hc:=hl c (by simp)
  rw [List.flatten_cons,List.getElem?_append_right (by rw [hc,Nat.succ_mul]; omega),hc,show (j+1) * k+i - k=j * k+i by rw [Nat.succ_mul]; omega]
  exact flat_at css (fun x hx=>hl x (List.mem_cons_of_mem _ hx)) j cs (by simpa using h) i u hu
theorem flat_len {k:Nat}:∀ (css:List (List Value)),(∀ cs∈css,cs.length=k)→css.flatten.length=css.length * k
 | [],_=>by simp
 | c :: css,hl=>by
  rw [List.flatten_cons,List.length_append,flat_len css (fun x hx=>hl x (List.mem_cons_of_mem _ hx)),hl c (by simp),List.length_cons,Nat.succ_mul]; omega
theorem RowR.own {base:Nat} {e:TypeId} (css:List (List Value)) (hk:∀ cs∈css,cs.length=k) (hl:css.length=xs.length) (h:w.ownsRow base e k v xs.length css.flatten) (hR:∀ (j:Nat) (cs:List Value) (x:α),css[j]? = some cs→xs[j]? = some x→R cs x) (hS:∀ g,v.ownBlock=some g→base≤g→S g):RowR S k R w v xs:=by
 obtain ⟨a,c,hv,hc,_,h3⟩:=own_cap h
 refine ⟨a,c,hv,hc,fun q=>?_⟩
 obtain ⟨g,ha,hb,hg,hcell⟩:=h3 q
 refine ⟨g,0,ha,hg,hS g (by rw [hv,ha]; rfl) hb,fun j x hx=>?_⟩
 have hj:=(List.getElem?_eq_some_iff.1 hx).1
 have hcs:css[j]? = some (css[j]'(by omega)):=List.getElem?_eq_getElem (by omega)
 refine ⟨css[j]'(by omega),hk _ (List.getElem_mem _),fun i u hu=>?_,hR j _ x hcs hx⟩
 rw [Nat.zero_add]
 exact hcell _ u (flat_at css hk j _ hcs i u hu)
end
theorem Strs.sam {S:Nat→Prop} {w w':World} {v:Value} {xs:List Bs} (h:Strs w v xs) (hi:InB S v xs.length) (k:Sam S w w'):Strs w' v xs:=by
 obtain ⟨a,c,hv,hc,h3⟩:=h
 refine ⟨a,c,hv,hc,fun q=>?_⟩
 obtain ⟨g,o,ha,hg,hcell⟩:=h3 q
 have hs:S g:=hi q g (by rw [hv,ha]; rfl)
 exact ⟨g,o,ha,k.lt hg hs,fun j x hx=>(k.cell _ hg hs).trans (hcell j x hx)⟩
theorem Strs.onlS {S T:Nat→Prop} {w w':World} {v:Value} {xs:List Bs} (h:Strs w v xs) (hi:InB S v xs.length) (k:Only T w w') (hs:∀ g,g<w.heap.size→S g→¬ T g):Strs w' v xs:=h.sam hi (Sam.only k hs)
theorem Strs.ltB {w:World} {v:Value} {xs:List Bs} (h:Strs w v xs):InB (fun g=>g<w.heap.size) v xs.length:=fun q g hg=>by
 obtain ⟨a,c,hv,hc,h3⟩:=h
 obtain ⟨g',o,ha,hgg,_⟩:=h3 q
 rw [hv,ha] at hg
 have:g'=g:=by simpa [Value.ownBlock] using hg
 omega
theorem Prs.sam {S:Nat→Prop} {w w':World} {v:Value} {xs:List Pr} (h:Prs w v xs) (hi:InB S v xs.length) (k:Sam S w w'):Prs w' v xs:=by
 obtain ⟨a,c,hv,hc,h3⟩:=h
 refine ⟨a,c,hv,hc,fun q=>?_⟩
 obtain ⟨g,o,ha,hg,hcell⟩:=h3 q
 have hs:S g:=hi q g (by rw [hv,ha]; rfl)
 refine ⟨g,o,ha,k.lt hg hs,fun j x hx=>?_⟩
 rw [k.cell _ hg hs,k.cell _ hg hs]
 exact hcell j x hx
theorem Prs.onlS {S T:Nat→Prop} {w w':World} {v:Value} {xs:List Pr} (h:Prs w v xs) (hi:InB S v xs.length) (k:Only T w w') (hs:∀ g,g<w.heap.size→S g→¬ T g):Prs w' v xs:=h.sam hi (Sam.only k hs)
theorem Prs.ltB {w:World} {v:Value} {xs:List Pr} (h:Prs w v xs):InB (fun g=>g<w.heap.size) v xs.length:=fun q g hg=>by
 obtain ⟨a,c,hv,hc,h3⟩:=h
 obtain ⟨g',o,ha,hgg,_⟩:=h3 q
 rw [hv,ha] at hg
 have:g'=g:=by simpa [Value.ownBlock] using hg
 omega
/-- The parts of a citation. -/
def CitW (cs:List Value) (c:Cit):Prop:=cs=[.string (bs c.key),.string (bs c.pre),.string (bs c.suf),.bool c.bare]
abbrev Cits (S:Nat→Prop):World→Value→List Cit→Prop:=RowR S 4 CitW
theorem Cits.sam {S S':Nat→Prop} {w w':World} {v:Value} {xs:List Cit} (h:Cits S w v xs) (k:Sam S w w') (hS:∀ g,g<w.heap.size→S g→S' g):Cits S' w' v xs:=h.step k hS (fun _ _ _ h=>h)

def inlC (x:Inl) (vC vP vA vT vK:Value):List Value:=[.int .i64 x.kind,.string (bs x.text),.string (bs x.dest),.string (bs x.title),.string (bs x.id),vC,vP,vA,vT,vK]
/-- Ten cells read as an inline, its inner inlines by L. -/
def InlW (S:Nat→Prop) (L:World→Value→List Inl→Prop) (w:World) (cs:List Value) (x:Inl):Prop :=
 ∃ vC vP vA vT vK,cs=inlC x vC vP vA vT vK∧(Strs w vC x.cls∧InB S vC x.cls.length)∧(Prs w vP x.prs∧InB S vP x.prs.length)∧(Strs w vA x.args∧InB S vA x.args.length)∧Cits S w vT x.cits∧L w vK x.kids
/-- The slice v reads in w as the inlines xs, at most n deep, all of it in blocks of S. -/
def Lns (S:Nat→Prop):Nat→World→Value→List Inl→Prop
 | 0,w,v,xs=>xs=[]∧RowR S 10 (fun _ _=>False) w v xs
 | n+1,w,v,xs=>RowR S 10 (InlW S (Lns S n) w) w v xs
theorem InlW.sam {S S':Nat→Prop} {L L':World→Value→List Inl→Prop} {w w':World} {cs:List Value} {x:Inl} (h:InlW S L w cs x) (k:Sam S w w') (hS:∀ g,g<w.heap.size→S g→S' g) (hL:∀ v,L w v x.kids→L' w' v x.kids):InlW S' L' w' cs x:=by
 obtain ⟨vC,vP,vA,vT,vK,rfl,⟨c1,c2⟩,⟨p1,p2⟩,⟨a1,a2⟩,t,kk⟩:=h
 exact ⟨vC,vP,vA,vT,vK,rfl,⟨c1.sam c2 k,c2.mono fun g hg q=>hS g (c1.ltB q g hg)⟩,⟨p1.sam p2 k,p2.mono fun g hg q=>hS g (p1.ltB q g hg)⟩,⟨a1.sam a2 k,a2.mono fun g hg q=>hS g (a1.ltB q g hg)⟩,t.sam k hS,hL vK kk⟩
theorem Lns.sam {S S':Nat→Prop}:∀ {n:Nat} {w w':World} {v:Value} {xs:List Inl},Lns S n w v xs→Sam S w w'→(∀ g,g<w.heap.size→S g→S' g)→Lns S' n w' v xs
 | 0,_,_,_,_,h,k,hS=>⟨h.1,RowR.step h.2 k hS (fun _ _ _ h=>h)⟩
 | n+1,_,_,_,_,h,k,hS=>RowR.step (show RowR S 10 _ _ _ _ from h) k hS (fun _ _ _ h=>h.sam k hS (fun _ h=>Lns.sam h k hS))
theorem Lns.step {S S' T:Nat→Prop} {n:Nat} {w w':World} {v:Value} {xs:List Inl} (h:Lns S n w v xs) (k:Only T w w') (hs:∀ g,g<w.heap.size→S g→¬ T g) (hS:∀ g,g<w.heap.size→S g→S' g):Lns S' n w' v xs:=h.sam (Sam.only k hs) hS
theorem Lns.kept {S:Nat→Prop} {n:Nat} {w w':World} {v:Value} {xs:List Inl} (h:Lns S n w v xs) (k:Kept w w'):Lns S n w' v xs:=h.sam (Sam.kept k) (fun _ _ q=>q)
theorem Lns.mono {S S':Nat→Prop} {n:Nat} {w:World} {v:Value} {xs:List Inl} (h:Lns S n w v xs) (hS:∀ g,g<w.heap.size→S g→S' g):Lns S' n w v xs:=h.sam (fun _ _ _=>rfl) hS
theorem Lns.form {S:Nat→Prop} {n:Nat} {w:World} {v:Value} {xs:List Inl} (h:Lns S n w v xs):∃ a c,v=.slice a xs.length c∧xs.length≤c:=by
 cases n with
 | zero=>exact RowR.form h.2
 | succ n=>exact RowR.form (show RowR S 10 _ _ _ _ from h)
theorem Lns.none_ (S:Nat→Prop) (n:Nat) (w:World):Lns S n w (.slice none 0 0) []:=by
 cases n with
 | zero=>exact ⟨rfl,RowR.none_ _ _ _ _⟩
 | succ n=>exact (RowR.none_ S 10 _ w:RowR S 10 _ w _ _)
theorem InlW.up {S:Nat→Prop} {L L':World→Value→List Inl→Prop} {w:World} {cs:List Value} {x:Inl} (h:InlW S L w cs x) (hL:∀ v,L w v x.kids→L' w v x.kids):InlW S L' w cs x:=h.sam (fun _ _ _=>rfl) (fun _ _ q=>q) hL
theorem Lns.up {S:Nat→Prop}:∀ {n:Nat} {w:World} {v:Value} {xs:List Inl},Lns S n w v xs→Lns S (n+1) w v xs
 | 0,w,v,xs,h=>by
  obtain ⟨rfl,h⟩:=h
  exact RowR.step (S':=S) (R':=InlW S (Lns S 0) w) h (fun _ _ _=>rfl) (fun _ _ q=>q) (fun _ _ _ h=>h.elim)
 | n+1,w,v,xs,h=>RowR.step (show RowR S 10 _ _ _ _ from h) (fun _ _ _=>rfl) (fun _ _ q=>q) (fun _ _ _ h=>h.up (fun _ h=>Lns.up h))
theorem Lns.ups {S:Nat→Prop} {n m:Nat} {w:World} {v:Value} {xs:List Inl} (h:Lns S n w v xs) (k:n≤m):Lns S m w v xs:=by
 induction k with
 | refl=>exact h
 | step _ ih=>exact ih.up

def bloC (x:Blo) (vC vP vL vK:Value):List Value:=[.int .i64 x.kind,.int .i64 x.level,.string (bs x.info),.string (bs x.text),.string (bs x.dest),.string (bs x.title),.string (bs x.id),vC,vP,vL,vK]
/-- Eleven cells read as a block, its inner blocks by L. -/
def BloW (S:Nat→Prop) (m:Nat) (L:World→Value→List Blo→Prop) (w:World) (cs:List Value) (x:Blo):Prop :=
 ∃ vC vP vL vK,cs=bloC x vC vP vL vK∧(Strs w vC x.cls∧InB S vC x.cls.length)∧(Prs w vP x.prs∧InB S vP x.prs.length)∧Lns S m w vL x.line∧L w vK x.kids
/-- The slice v reads in w as the blocks xs, at most n deep, with lines at most m deep, all of it in blocks of S. -/
def Bls (S:Nat→Prop) (m:Nat):Nat→World→Value→List Blo→Prop
 | 0,w,v,xs=>xs=[]∧RowR S 11 (fun _ _=>False) w v xs
 | n+1,w,v,xs=>RowR S 11 (BloW S m (Bls S m n) w) w v xs
theorem BloW.sam {S S':Nat→Prop} {m:Nat} {L L':World→Value→List Blo→Prop} {w w':World} {cs:List Value} {x:Blo} (h:BloW S m L w cs x) (k:Sam S w w') (hS:∀ g,g<w.heap.size→S g→S' g) (hL:∀ v,L w v x.kids→L' w' v x.kids):BloW S' m L' w' cs x:=by
 obtain ⟨vC,vP,vL,vK,rfl,⟨c1,c2⟩,⟨p1,p2⟩,l,kk⟩:=h
 exact ⟨vC,vP,vL,vK,rfl,⟨c1.sam c2 k,c2.mono fun g hg q=>hS g (c1.ltB q g hg)⟩,⟨p1.sam p2 k,p2.mono fun g hg q=>hS g (p1.ltB q g hg)⟩,l.sam k hS,hL vK kk⟩
theorem Bls.sam {S S':Nat→Prop} {m:Nat}:∀ {n:Nat} {w w':World} {v:Value} {xs:List Blo},Bls S m n w v xs→Sam S w w'→(∀ g,g<w.heap.size→S g→S' g)→Bls S' m n w' v xs
 | 0,_,_,_,_,h,k,hS=>⟨h.1,RowR.step h.2 k hS (fun _ _ _ h=>h)⟩
 | n+1,_,_,_,_,h,k,hS=>RowR.step (show RowR S 11 _ _ _ _ from h) k hS (fun _ _ _ h=>h.sam k hS (fun _ h=>Bls.sam h k hS))
theorem Bls.step {S S' T:Nat→Prop} {m n:Nat} {w w':World} {v:Value} {xs:List Blo} (h:Bls S m n w v xs) (k:Only T w w') (hs:∀ g,g<w.heap.size→S g→¬ T g) (hS:∀ g,g<w.heap.size→S g→S' g):Bls S' m n w' v xs:=h.sam (Sam.only k hs) hS
theorem Bls.kept {S:Nat→Prop} {m n:Nat} {w w':World} {v:Value} {xs:List Blo} (h:Bls S m n w v xs) (k:Kept w w'):Bls S m n w' v xs:=h.sam (Sam.kept k) (fun _ _ q=>q)
theorem Bls.mono {S S':Nat→Prop} {m n:Nat} {w:World} {v:Value} {xs:List Blo} (h:Bls S m n w v xs) (hS:∀ g,g<w.heap.size→S g→S' g):Bls S' m n w v xs:=h.sam (fun _ _ _=>rfl) hS
theorem Bls.form {S:Nat→Prop} {m n:Nat} {w:World} {v:Value} {xs:List Blo} (h:Bls S m n w v xs):∃ a c,v=.slice a xs.length c∧xs.length≤c:=by
 cases n with
 | zero=>exact RowR.form h.2
 | succ n=>exact RowR.form (show RowR S 11 _ _ _ _ from h)
theorem Bls.none_ (S:Nat→Prop) (m n:Nat) (w:World):Bls S m n w (.slice none 0 0) []:=by
 cases n with
 | zero=>exact ⟨rfl,RowR.none_ _ _ _ _⟩
 | succ n=>exact (RowR.none_ S 11 _ w:RowR S 11 _ w _ _)
theorem BloW.up {S:Nat→Prop} {m:Nat} {L L':World→Value→List Blo→Prop} {w:World} {cs:List Value} {x:Blo} (h:BloW S m L w cs x) (hL:∀ v,L w v x.kids→L' w v x.kids):BloW S m L' w cs x:=h.sam (fun _ _ _=>rfl) (fun _ _ q=>q) hL
theorem Bls.up {S:Nat→Prop} {m:Nat}:∀ {n:Nat} {w:World} {v:Value} {xs:List Blo},Bls S m n w v xs→Bls S m (n+1) w v xs
 | 0,w,v,xs,h=>by
  obtain ⟨rfl,h⟩:=h
  exact RowR.step (S':=S) (R':=BloW S m (Bls S m 0) w) h (fun _ _ _=>rfl) (fun _ _ q=>q) (fun _ _ _ h=>h.elim)
 | n+1,w,v,xs,h=>RowR.step (show RowR S 11 _ _ _ _ from h) (fun _ _ _=>rfl) (fun _ _ q=>q) (fun _ _ _ h=>h.up (fun _ h=>Bls.up h))
theorem Bls.ups {S:Nat→Prop} {m n k:Nat} {w:World} {v:Value} {xs:List Blo} (h:Bls S m n w v xs) (q:n≤k):Bls S m k w v xs:=by
 induction q with
 | refl=>exact h
 | step _ ih=>exact ih.up
end Go.Proofs.YtmcoomlkbgiboaaGreatDoor

/- Lists of structs that a call makes by appending: what lies in the row that it owns. No condition. -/
set_option linter.all false
namespace Go.Proofs.YtmcoomlkbgiboaaGreatDoor
open Go.RowKit

theorem addr_plus (g o j:Nat):(⟨g,o,none⟩:Addr).add j=⟨g,o+j,none⟩:=by unfold Addr.add; split <;> simp_all
/-- A reading of cells that stands where only other blocks change. -/
structure ReadK {α:Type} (R:(Nat→Prop)→World→List Value→α→Prop):Prop where
 sam:∀ {S S':Nat→Prop} {w w':World} {cs:List Value} {x:α},R S w cs x→Sam S w w'→(∀ g,g<w.heap.size→S g→S' g)→R S' w' cs x
 one:∀ {S:Nat→Prop} {w:World} {cs:List Value} {x:α},R S w cs x→∀ u∈cs,u.oneCell'=true
/-- The row of a call's own that holds the elements xs: their trees lie in blocks of A, and not in the row itself. -/
def OutG {α:Type} (R:(Nat→Prop)→World→List Value→α→Prop) (k:Nat) (A:Nat→Prop) (base:Nat) (e:TypeId) (w:World) (v:Value) (xs:List α):Prop :=
 ∃ css:List (List Value),css.length=xs.length∧(∀ cs∈css,cs.length=k)∧w.ownsRow base e k v xs.length css.flatten ∧
  ∀ (j:Nat) (cs:List Value) (x:α),css[j]? = some cs→xs[j]? = some x→R (fun g=>A g∧v.ownBlock≠some g) w cs x
section
variable {α:Type} {R:(Nat→Prop)→World→List Value→α→Prop} {k:Nat} {A:Nat→Prop} {base:Nat} {e:TypeId} {w w':World} {v:Value} {xs:List α}
theorem OutG.nil (R:(Nat→Prop)→World→List Value→α→Prop) (k:Nat) (A:Nat→Prop) (base:Nat) (e:TypeId) (w:World):OutG R k A base e w (.slice none 0 0) [] :=
 ⟨[],rfl,(fun _ h=>by cases h),World.ownsRow_nil _ _ _ _,(fun _ _ _ h=>by cases h)⟩
theorem OutG.form (h:OutG R k A base e w v xs):∃ a c,v=.slice a xs.length c∧xs.length≤c∧c≤maxLen:=by
 obtain ⟨css,_,_,ho,_⟩:=h
 obtain ⟨a,c,hv,hc,hm,_⟩:=own_cap ho
 exact ⟨a,c,hv,hc,hm⟩
theorem OutG.blk (h:OutG R k A base e w v xs) (g:Nat) (hg:v.ownBlock=some g):base≤g∧g<w.heap.size:=by
 obtain ⟨css,_,_,ho,_⟩:=h
 exact ho.lt g hg
theorem OutG.only {T:Nat→Prop} (hR:ReadK R) (h:OutG R k A base e w v xs) (q:Only T w w') (hA:∀ g,g<w.heap.size→A g→v.ownBlock≠some g→¬ T g) (hv:∀ g,v.ownBlock=some g→¬ T g):OutG R k A base e w' v xs:=by
 obtain ⟨css,h1,h2,ho,h4⟩:=h
 exact ⟨css,h1,h2,q.own ho hv,fun j cs x hc hx=>hR.sam (h4 j cs x hc hx) (Sam.only q (fun g hg hs=>hA g hg hs.1 hs.2)) (fun _ _ h=>h)⟩
theorem OutG.kept (hR:ReadK R) (h:OutG R k A base e w v xs) (q:Kept w w'):OutG R k A base e w' v xs:=h.only hR (Only.of_kept (S:=fun _=>False) q) (fun _ _ _ _ h=>h) (fun _ _ h=>h)
theorem OutG.mono {A':Nat→Prop} (hR:ReadK R) (h:OutG R k A base e w v xs) (q:∀ g,g<w.heap.size→A g→A' g):OutG R k A' base e w v xs:=by
 obtain ⟨css,h1,h2,ho,h4⟩:=h
 exact ⟨css,h1,h2,ho,fun j cs x hc hx=>hR.sam (h4 j cs x hc hx) (fun _ _ _=>rfl) (fun g hg hs=>⟨q g hg hs.1,hs.2⟩)⟩
theorem OutG.low {base':Nat} (h:OutG R k A base e w v xs) (q:base'≤base):OutG R k A base' e w v xs:=by
 obtain ⟨css,h1,h2,ho,h4⟩:=h
 exact ⟨css,h1,h2,own_mono ho q,h4⟩
/-- The row as a slice. -/
theorem OutG.row {S:Nat→Prop} (hR:ReadK R) (h:OutG R k A base e w v xs) (hA:∀ g,g<w.heap.size→A g→S g) (hB:∀ g,base≤g→S g):RowR S k (R S w) w v xs:=by
 obtain ⟨css,h1,h2,ho,h4⟩:=h
 exact RowR.own css h2 h1 ho (fun j cs x hc hx=>hR.sam (h4 j cs x hc hx) (fun _ _ _=>rfl) (fun g hg hs=>hA g hg hs.1)) (fun g _ hb=>hB g hb)
theorem flat_back {k:Nat} (hk:0<k) (css:List (List Value)) (hl:∀ cs∈css,cs.length=k) (t:Nat) (u:Value) (h:css.flatten[t]? = some u):∃ j i cs,t=j * k+i∧css[j]? = some cs∧cs[i]? = some u:=by
 have ht:=(List.getElem?_eq_some_iff.1 h).1
 rw [flat_len css hl] at ht
 have hj:t / k<css.length:=by rw [Nat.div_lt_iff_lt_mul hk]; exact ht
 have hc:css[t / k]? = some css[t / k]:=List.getElem?_eq_getElem hj
 have hcl:=hl _ (List.getElem_mem hj)
 have hi:t % k<css[t / k].length:=by rw [hcl]; exact Nat.mod_lt _ hk
 have hu:css[t / k][t % k]? = some css[t / k][t % k]:=List.getElem?_eq_getElem hi
 have e:=flat_at css hl (t / k) _ hc (t % k) _ hu
 have et:t / k * k+t % k=t:=by rw [Nat.mul_comm]; exact Nat.div_add_mod t k
 rw [et,h] at e
 exact ⟨t / k,t % k,_,et.symm,hc,by rw [hu,← e]⟩
/-- The cells of a slice's elements. -/
theorem RowR.css {S:Nat→Prop} {Q:List Value→α→Prop} {a:Option Addr} {n c:Nat} (hk:0<k) (h:RowR S k Q w (.slice a n c) xs):∃ css:List (List Value),css.length=xs.length∧(∀ cs∈css,cs.length=k)∧(∀ (j:Nat) (cs:List Value) (x:α),css[j]? = some cs→xs[j]? = some x→Q cs x) ∧
  (0<xs.length→∃ g o,a=some ⟨g,o,none⟩∧g<w.heap.size∧S g∧∀ t u,css.flatten[t]? = some u→w.cell? ⟨g,o+t,none⟩=some u):=by
 obtain ⟨a',c',hv,hc,h3⟩:=h
 obtain ⟨rfl,rfl,rfl⟩:=Value.slice.inj hv
 by_cases q:0<xs.length
 ·obtain ⟨g,o,ha,hg,hS,hcell⟩:=h3 q
  have key:∀ ys:List α,∀ d:Nat,(∀ j x,ys[j]? = some x→∃ cs:List Value,cs.length=k∧(∀ i u,cs[i]? = some u→w.cell? ⟨g,o+(d+j) * k+i,none⟩=some u)∧Q cs x) →
    ∃ css:List (List Value),css.length=ys.length∧(∀ cs∈css,cs.length=k)∧(∀ (j:Nat) (cs:List Value) (x:α),css[j]? = some cs→ys[j]? = some x→Q cs x)∧∀ (j:Nat) (cs:List Value),css[j]? = some cs→∀ i u,cs[i]? = some u→w.cell? ⟨g,o+(d+j) * k+i,none⟩=some u:=by
   intro ys
   induction ys with
   | nil=>intro d _; exact ⟨[],rfl,(fun _ h=>by cases h),(fun _ _ _ h=>by cases h),(fun _ _ h=>by cases h)⟩
   | cons y ys ih =>
    intro d hy
    obtain ⟨cs0,l0,c0,r0⟩:=hy 0 y rfl
    obtain ⟨css,e1,e2,e3,e4⟩:=ih (d+1) (fun j x hx=>by
     have:=hy (j+1) x (by simpa using hx)
     rw [show d+(j+1)=d+1+j by omega] at this
     exact this)
    refine ⟨cs0 :: css,by simp [e1],?_,?_,?_⟩
    ·intro cs hcs
     rcases List.mem_cons.1 hcs with rfl | hcs
     ·exact l0
     ·exact e2 cs hcs
    ·intro j cs x hc hx
     cases j with
     | zero=>cases hc; cases hx; exact r0
     | succ j=>exact e3 j cs x (by simpa using hc) (by simpa using hx)
    ·intro j cs hc i u hu
     cases j with
     | zero=>cases hc; exact c0 i u hu
     | succ j =>
      have:=e4 j cs (by simpa using hc) i u hu
      rw [show d+(j+1)=d+1+j by omega]
      exact this
  obtain ⟨css,e1,e2,e3,e4⟩:=key xs 0 (fun j x hx=>by rw [Nat.zero_add]; exact hcell j x hx)
  refine ⟨css,e1,e2,e3,fun _=>⟨g,o,ha,hg,hS,fun t u ht=>?_⟩⟩
  obtain ⟨j,i,cs,rfl,hcj,hi⟩:=flat_back hk css e2 t u ht
  have:=e4 j cs hcj i u hi
  rw [Nat.zero_add] at this
  rw [← Nat.add_assoc]; exact this
 ·obtain rfl:xs=[]:=List.length_eq_zero_iff.1 (by omega)
  exact ⟨[],rfl,(fun _ h=>by cases h),(fun _ _ _ h=>by cases h),(fun h=>absurd h (by simp))⟩
/-- What an append of elements to an own row leaves. -/
theorem OutG.app {ys:List α} {css css2:List (List Value)} {g cap:Nat} (hR:ReadK R) (h1:css.length=xs.length) (h2:∀ cs∈css,cs.length=k) (h4:∀ (j:Nat) (cs:List Value) (x:α),css[j]? = some cs→xs[j]? = some x→R (fun g=>A g∧v.ownBlock≠some g) w cs x)
  (k1:css2.length=ys.length) (k2:∀ cs∈css2,cs.length=k) (k4:∀ (j:Nat) (cs:List Value) (x:α),css2[j]? = some cs→ys[j]? = some x→R (fun g=>A g∧v.ownBlock≠some g) w cs x)
  (ho:w'.ownsRow base e k (.slice (some ⟨g,0,none⟩) (xs.length+ys.length) cap) (xs.length+ys.length) (css.flatten ++ css2.flatten)) (hg:w.grownBy w' v.ownBlock) (hat:v.ownBlock=some g∨g=w.heap.size):OutG R k A base e w' (.slice (some ⟨g,0,none⟩) (xs.length+ys.length) cap) (xs ++ ys):=by
 have hst:∀ cs x,R (fun g=>A g∧v.ownBlock≠some g) w cs x→R (fun g'=>A g'∧(Value.slice (some ⟨g,0,none⟩) (xs.length+ys.length) cap).ownBlock≠some g') w' cs x:=fun cs x hx =>
  hR.sam hx (Sam.only (Only.grown hg) (fun g' _ hs q=>hs.2 q.symm)) (fun g' hlt hs=>⟨hs.1,fun q=>by
   have e1:g=g':=by simpa [Value.ownBlock] using q
   rcases hat with q2 | q2
   ·exact hs.2 (by rw [q2,e1])
   ·omega⟩)
 refine ⟨css ++ css2,by simp [h1,k1],fun cs hcs=>(List.mem_append.1 hcs).elim (h2 cs) (k2 cs),?_,fun j cs x hc hx=>?_⟩
 ·rw [List.flatten_append,List.length_append]; exact ho
 ·rcases Nat.lt_or_ge j xs.length with q | q
  ·rw [List.getElem?_append_left (by omega)] at hc hx
   exact hst cs x (h4 j cs x hc hx)
  ·rw [List.getElem?_append_right (by omega)] at hc hx
   rw [h1] at hc
   exact hst cs x (k4 _ cs x hc hx)
/-- An element is appended: at a plain region's list. -/
theorem wpList_append_out {P:Program} (hR:ReadK R) {ops:Array Oper} {rest:List Oper} {o:Oper} {a:Act} {Q:Exit→Act→World→Prop} (hgd:o.guard=none) (s x:Operand) (t:TypeId)
  (ho:o.op=.call { callee:=.builtin .append,args:=#[s,x],argTypes:=#[t,t] })
  (i:TypeInfo) (z:Value) (bytes:Nat) (ht:P.underlying t=some (.slice e)) (hi:P.info? e=some i) (hz:i.zero=some z) (hsize:i.size=k) (hby:i.bytes=bytes) (hzs:z.cells.size=k) (hsz:0<k)
  (hs:a.eval s=v) (hown:OutG R k A base e w v xs) (g0:Nat) (cs:List Value) (y:α) (hx:a.eval x=.slice (some ⟨g0,0,none⟩) 1 1) (hb:∀ j u,cs[j]? = some u→w.cell? ⟨g0,j,none⟩=some u) (hcl:cs.length=k)
  (hy:R (fun g=>A g∧v.ownBlock≠some g) w cs y) (h63:xs.length+1≤maxLen) (hbytes:(xs.length+1) * bytes≤140737488355328) (hbase:base≤w.heap.size) (H:Nat) (hH:w.heap.size=H)
  (h:∀ g cap w',OutG R k A base e w' (.slice (some ⟨g,0,none⟩) (xs.length+1) cap) (xs ++ [y])→w.grownBy w' v.ownBlock→(v.ownBlock=some g∨g=H)→g<w'.heap.size→wpList P ops Q rest (a.put o.dst (.slice (some ⟨g,0,none⟩) (xs.length+1) cap)) w'):wpList P ops Q (o :: rest) a w:=by
 obtain ⟨css,h1,h2,ho2,h4⟩:=hown
 refine wpList_append_lies w hgd s x t ho base e i z k bytes ht hi hz hsize hby hzs hsz v xs.length css.flatten hs ho2 ⟨g0,0,none⟩ 1 1 cs hx (by rw [hcl,Nat.one_mul]) (fun j u hu=>by rw [addr_plus,Nat.zero_add]; exact hb j u hu) (hR.one hy) (by omega) h63 hbytes hbase H hH ?_
 intro g cap w' q1 q2 q3 q4
 refine h g cap w' ?_ q2 q3 q4
 subst hH
 exact OutG.app (ys:=[y]) (css2:=[cs]) hR h1 h2 h4 rfl (fun c hc=>by simp at hc; subst hc; exact hcl) (fun j c u hc hu=>by
  cases j with
  | zero=>cases hc; cases hu; exact hy
  | succ j=>simp at hc) (by simpa using q1) q2 q3
end
theorem InlW.one {S:Nat→Prop} {L:World→Value→List Inl→Prop} (hL:∀ w v xs,L w v xs→v.oneCell'=true) {w:World} {cs:List Value} {x:Inl} (h:InlW S L w cs x):∀ u∈cs,u.oneCell'=true:=by
 obtain ⟨vC,vP,vA,vT,vK,rfl,⟨⟨_,_,rfl,_⟩,_⟩,⟨⟨_,_,rfl,_⟩,_⟩,⟨⟨_,_,rfl,_⟩,_⟩,⟨_,_,rfl,_⟩,kk⟩:=h
 have:=hL _ _ _ kk
 intro u hu
 unfold inlC at hu
 simp only [List.mem_cons,List.not_mem_nil,or_false] at hu
 rcases hu with rfl | rfl | rfl | rfl | rfl | rfl | rfl | rfl | rfl | rfl <;> first | rfl | exact this
theorem Lns.one {S:Nat→Prop} {n:Nat} {w:World} {v:Value} {xs:List Inl} (h:Lns S n w v xs):v.oneCell'=true:=by
 obtain ⟨a,c,rfl,_⟩:=h.form; rfl
theorem Bls.one {S:Nat→Prop} {m n:Nat} {w:World} {v:Value} {xs:List Blo} (h:Bls S m n w v xs):v.oneCell'=true:=by
 obtain ⟨a,c,rfl,_⟩:=h.form; rfl
theorem BloW.one {S:Nat→Prop} {m:Nat} {L:World→Value→List Blo→Prop} (hL:∀ w v xs,L w v xs→v.oneCell'=true) {w:World} {cs:List Value} {x:Blo} (h:BloW S m L w cs x):∀ u∈cs,u.oneCell'=true:=by
 obtain ⟨vC,vP,vL,vK,rfl,⟨⟨_,_,rfl,_⟩,_⟩,⟨⟨_,_,rfl,_⟩,_⟩,l,kk⟩:=h
 have h1:=l.one
 have h2:=hL _ _ _ kk
 intro u hu
 unfold bloC at hu
 simp only [List.mem_cons,List.not_mem_nil,or_false] at hu
 rcases hu with rfl | rfl | rfl | rfl | rfl | rfl | rfl | rfl | rfl | rfl | rfl <;> first | rfl | exact h1 | exact h2
/-- How inlines are read. -/
def InlK (n:Nat) (S:Nat→Prop) (w:World):List Value→Inl→Prop:=InlW S (Lns S n) w
def BloK (m n:Nat) (S:Nat→Prop) (w:World):List Value→Blo→Prop:=BloW S m (Bls S m n) w
theorem inlK (n:Nat):ReadK (InlK n):=⟨fun h k hS=>InlW.sam h k hS (fun _ h=>Lns.sam h k hS),fun h=>InlW.one (fun _ _ _ h=>Lns.one h) h⟩
theorem bloK (m n:Nat):ReadK (BloK m n):=⟨fun h k hS=>BloW.sam h k hS (fun _ h=>Bls.sam h k hS),fun h=>BloW.one (fun _ _ _ h=>Bls.one h) h⟩
/-- A text in one cell. -/
def StrK (S:Nat→Prop) (w:World) (cs:List Value) (x:Bs):Prop:=cs=[.string (bs x)]
theorem strK:ReadK StrK:=⟨fun h _ _=>h,fun h u hu=>by rw [h] at hu; simp at hu; subst hu; rfl⟩
end Go.Proofs.YtmcoomlkbgiboaaGreatDoor

/- Definitions and uses of glossaries, in plain Lean. No condition. -/
set_option linter.all false
namespace Go.Proofs.YtmcoomlkbgiboaaGreatDoor
open Go.RowKit

/-- The value of the first pair with a key. -/
def getP (ps:List Pr) (k:Bs):Option Bs:=(ps.find? fun q=>q.1 == k).map (·.2)
mutual
/-- The plain text of an inline. -/
def plain1:Inl→Bs
 | .mk kind text dest _ _ _ _ _ _ kids =>
  if kind=1∨kind=4∨kind=5 then text else if kind=2∨kind=3 then [32] else if 6≤kind∧kind≤11 then plainL kids else if kind=16 then dest else []
/-- The plain text of inlines. -/
def plainL:List Inl→Bs
 | []=>[]
 | x :: xs=>plain1 x ++ plainL xs
end
mutual
/-- Inlines, and those in them. -/
def deep1:Inl→List Inl
 | .mk kind text dest title id cls prs args cits kids=>.mk kind text dest title id cls prs args cits kids :: deepL kids
def deepL:List Inl→List Inl
 | []=>[]
 | x :: xs=>deep1 x ++ deepL xs
end
mutual
/-- The inlines of a block, and of those in it. -/
def inls1:Blo→List Inl
 | .mk _ _ _ _ _ _ _ _ _ line kids=>deepL line ++ inlsL kids
def inlsL:List Blo→List Inl
 | []=>[]
 | x :: xs=>inls1 x ++ inlsL xs
end
theorem deep1_eq (x:Inl):deep1 x=x :: deepL x.kids:=by cases x; rfl
theorem inls1_eq (b:Blo):inls1 b=deepL b.line ++ inlsL b.kids:=by cases b; rfl
theorem plain1_eq (x:Inl):plain1 x=if x.kind=1∨x.kind=4∨x.kind=5 then x.text else if x.kind=2∨x.kind=3 then [32] else if 6≤x.kind∧x.kind≤11 then plainL x.kids else if x.kind=16 then x.dest else []:=by cases x; rfl
theorem deepL_app (xs ys:List Inl):deepL (xs ++ ys)=deepL xs ++ deepL ys:=by
 induction xs with
 | nil=>rfl
 | cons x xs ih=>show deep1 x ++ deepL (xs ++ ys)=_; rw [ih]; show _=(deep1 x ++ deepL xs) ++ _; rw [List.append_assoc]
theorem plainL_app (xs ys:List Inl):plainL (xs ++ ys)=plainL xs ++ plainL ys:=by
 induction xs with
 | nil=>rfl
 | cons x xs ih=>show plain1 x ++ plainL (xs ++ ys)=_; rw [ih]; show _=(plain1 x ++ plainL xs) ++ _; rw [List.append_assoc]
theorem inlsL_app (xs ys:List Blo):inlsL (xs ++ ys)=inlsL xs ++ inlsL ys:=by
 induction xs with
 | nil=>rfl
 | cons x xs ih=>show inls1 x ++ inlsL (xs ++ ys)=_; rw [ih]; show _=(inls1 x ++ inlsL xs) ++ _; rw [List.append_assoc]
theorem take_snoc {α:Type} {xs:List α} {k:Nat} {x:α} (h:xs[k]? = some x):xs.take (k+1)=xs.take k ++ [x]:=by
 obtain ⟨hk,rfl⟩:=List.getElem?_eq_some_iff.1 h
 exact List.take_succ_eq_append_getElem hk
end Go.Proofs.YtmcoomlkbgiboaaGreatDoor

/- Maps in memory whose keys are whole numbers: look-up, a key that is new, a key that is put again. No condition. -/
set_option linter.all false
namespace Go.Proofs.YtmcoomlkbgiboaaGreatDoor
open Go.RowKit

def entV (e:Int × Value) (i:Nat):MapEntry:={ key:=.int .i64 e.1,val:=e.2,born:=i }
def entsV (es:List (Int × Value)):Array MapEntry:=(es.mapIdx fun i e=>entV e i).toArray
/-- Block m is the map of the entries es. -/
def MapV (w:World) (m:Nat) (es:List (Int × Value)):Prop:=w.heap[m]? = some (.map (entsV es) es.length)
/-- The world with other entries in block m. -/
def putV (w:World) (m:Nat) (es:List (Int × Value)):World:={ w with heap:=w.heap.setIfInBounds m (.map (entsV es) es.length) }
def getV (es:List (Int × Value)) (k:Int):Option Value:=(es.find? fun e=>e.1 == k).map (·.2)
theorem MapV.lt {w:World} {m:Nat} {es:List (Int × Value)} (h:MapV w m es):m<w.heap.size:=by
 rcases Nat.lt_or_ge m w.heap.size with q | q
 ·exact q
 ·unfold MapV at h; rw [Array.getElem?_eq_none q] at h; cases h
theorem MapV.only {S:Nat→Prop} {w w':World} {m:Nat} {es:List (Int × Value)} (h:MapV w m es) (k:Only S w w') (hs:¬ S m):MapV w' m es:=by
 unfold MapV at h ⊢; rw [k.block m (MapV.lt h) hs]; exact h
theorem MapV.kept {w w':World} {m:Nat} {es:List (Int × Value)} (h:MapV w m es) (k:Kept w w'):MapV w' m es:=h.only (Only.of_kept (S:=fun _=>False) k) (fun q=>q)
theorem MapV.made (w:World):MapV (w.alloc (.map #[] 0)) w.heap.size []:=heap_alloc_new w _
theorem putV_map (w:World) (m:Nat) (es:List (Int × Value)) (hm:m<w.heap.size):MapV (putV w m es) m es:=by
 unfold MapV putV; simp [hm]
theorem putV_only (w:World) (m:Nat) (es:List (Int × Value)):Only (fun i=>i=m) w (putV w m es) :=
 ⟨rfl,rfl,rfl,by simp [putV],fun k hk hs=>by simp [putV,Array.getElem?_setIfInBounds,Ne.symm hs]⟩
theorem entsV_snoc (es:List (Int × Value)) (e:Int × Value):entsV (es ++ [e])=(entsV es).push (entV e es.length):=by
 unfold entsV; rw [List.mapIdx_append]; simp
theorem entsV_list (es:List (Int × Value)):(entsV es).toList=es.mapIdx fun i e=>entV e (i+0):=by simp [entsV]
theorem getV_cons (e:Int × Value) (es:List (Int × Value)) (k:Int):getV (e :: es) k=if e.1=k then some e.2 else getV es k:=by
 unfold getV
 rw [List.find?_cons]
 by_cases h:e.1=k
 ·rw [if_pos h]; simp [h]
 ·rw [if_neg h]
  have:(e.1 == k)=false:=by simpa using h
  rw [this]
theorem findV {kd:IntKind} (k:Int):∀ (l:List (Int × Value)) (i j:Nat),
  (getV l k=none∧Instr.findNow (.int kd) (.int .i64 k) (l.mapIdx fun i' e=>entV e (i'+i)) j=some none) ∨
  (∃ (n:Nat) (v:Value),getV l k=some v∧l[n]? = some (k,v)∧Instr.findNow (.int kd) (.int .i64 k) (l.mapIdx fun i' e=>entV e (i'+i)) j=some (some (n+j,v)))
 | [],_,_=>.inl ⟨rfl,rfl⟩
 | e :: l,i,j=>by
  rw [List.mapIdx_cons,getV_cons]
  unfold Instr.findNow
  by_cases h:e.1=k
  ·right
   refine ⟨0,e.2,by rw [if_pos h],by rw [← h]; rfl,?_⟩
   simp [entV,Instr.sameNow,h]
  ·have hx:(k == e.1)=false:=by rw [beq_eq_false_iff_ne]; exact fun q=>h q.symm
   have hm:(l.mapIdx fun i' x=>entV x (i'+1+i))=l.mapIdx fun i' x=>entV x (i'+(i+1)):=by
    congr 1; funext a b; congr 1; omega
   rw [if_neg h]
   simp only [entV,Instr.sameNow,hx,if_true] at hm ⊢
   rcases findV (kd:=kd) k l (i+1) (j+1) with ⟨g1,g2⟩ | ⟨n,v,g1,g2,g3⟩
   ·left
    simp only [entV] at g2
    rw [hm]
    exact ⟨g1,g2⟩
   ·right
    simp only [entV] at g3
    rw [hm]
    exact ⟨n+1,v,g1,by simpa using g2,by rw [g3]; congr 3; omega⟩
section
variable {P:Program} {tm ti te:TypeId}
theorem check_int (hi:P.underlying ti=some (.int .i64)) (e:Bool) (k:Int) (w:World):(Instr.checkKey e 10000 ti (.int .i64 k)).run P w=.ok () w:=by
 unfold Instr.checkKey
 simp only [Sem.run_bind,run_underlying hi,Result.andThen]
 rfl
theorem runV (hi:P.underlying ti=some (.int .i64)) (w:World) (es:List (Int × Value)) (k:Int) :
  (getV es k=none∧(Instr.findKey ti (.int .i64 k) (entsV es).toList).run P w=.ok none w) ∨
  (∃ n v,getV es k=some v∧es[n]? = some (k,v)∧(Instr.findKey ti (.int .i64 k) (entsV es).toList).run P w=.ok (some (n,v)) w):=by
 rcases findV (kd:=.i64) k es 0 0 with ⟨g1,g2⟩ | ⟨n,v,g1,g2,g3⟩
 ·left
  refine ⟨g1,?_⟩
  unfold Instr.findKey
  simp only [Sem.run_bind,run_underlying hi,Result.andThen,entsV_list,g2]
  simp [Sem.run_pure]
 ·right
  refine ⟨n,v,g1,g2,?_⟩
  unfold Instr.findKey
  simp only [Sem.run_bind,run_underlying hi,Result.andThen,entsV_list,g3]
  simp [Sem.run_pure]
/-- A look-up; z is what the map gives for a key that it has not. -/
theorem lookV (hm:P.underlying tm=some (.map ti te)) (hi:P.underlying ti=some (.int .i64)) (w:World) (m:Nat) (es:List (Int × Value)) (k:Int) (z:Value) (hz:(zeroValue te).run P w=.ok z w) (h:MapV w m es) :
  (Instr.lookup tm (.map (some m)) (.int .i64 k) false).run P w=.ok ((getV es k).getD z) w:=by
 unfold MapV at h
 unfold Instr.lookup
 simp only [Sem.run_bind,run_underlying hm,Result.andThen]
 rcases runV hi w es k with ⟨g1,g2⟩ | ⟨n,v,g1,_,g3⟩
 ·simp only [getObj,Sem.run_bind,Sem.run,h,Result.andThen,Sem.run_pure,check_int hi,g2,g1,hz]
  simp [Sem.run_pure]
 ·simp only [getObj,Sem.run_bind,Sem.run,h,Result.andThen,Sem.run_pure,check_int hi,g3,g1]
  simp [Sem.run_pure]
theorem lookV_ok (hm:P.underlying tm=some (.map ti te)) (hi:P.underlying ti=some (.int .i64)) (w:World) (m:Nat) (es:List (Int × Value)) (k:Int) (z:Value) (hz:(zeroValue te).run P w=.ok z w) (h:MapV w m es) :
  (Instr.lookup tm (.map (some m)) (.int .i64 k) true).run P w=.ok (.tuple #[(getV es k).getD z,.bool (getV es k).isSome]) w:=by
 unfold MapV at h
 unfold Instr.lookup
 simp only [Sem.run_bind,run_underlying hm,Result.andThen]
 rcases runV hi w es k with ⟨g1,g2⟩ | ⟨n,v,g1,_,g3⟩
 ·simp only [getObj,Sem.run_bind,Sem.run,h,Result.andThen,Sem.run_pure,check_int hi,g2,g1,hz]
  simp [Sem.run_pure]
 ·simp only [getObj,Sem.run_bind,Sem.run,h,Result.andThen,Sem.run_pure,check_int hi,g3,g1]
  simp [Sem.run_pure]
theorem insV (hm:P.underlying tm=some (.map ti te)) (hi:P.underlying ti=some (.int .i64)) (w:World) (m:Nat) (es:List (Int × Value)) (k:Int) (v:Value) (h:MapV w m es) (hk:getV es k=none) :
  (Instr.mapUpdate tm (.map (some m)) (.int .i64 k) v).run P w=.ok () (putV w m (es ++ [(k,v)])):=by
 unfold MapV at h
 unfold Instr.mapUpdate
 simp only [Sem.run_bind,run_underlying hm,Result.andThen]
 rcases runV hi w es k with ⟨g1,g2⟩ | ⟨n,v',g1,_,_⟩
 ·simp only [getObj,Sem.run_bind,Sem.run,h,Result.andThen,Sem.run_pure,check_int hi,g2,setObj]
  refine congrArg (Result.ok ()) ?_
  unfold putV
  rw [entsV_snoc]
  simp [entV]
 ·rw [hk] at g1; cases g1
theorem same_int (k:Int) (w:World):(Instr.keyThatStays (.int .i64 k) (.int .i64 k)).run P w=.ok (.int .i64 k) w:=by
 unfold Instr.keyThatStays
 have e:Instr.sameBits 10000 (.int .i64 k) (.int .i64 k)=true:=by
  unfold Instr.sameBits; simp
 rw [e]; rfl
theorem entsV_same (es:List (Int × Value)) (n:Nat) (k:Int) (v:Value) (h:es[n]? = some (k,v)):((entsV es).modify n fun e=>{ e with key:=.int .i64 k,val:=v })=entsV es:=by
 apply Array.ext_getElem?
 intro i
 rw [Array.getElem?_modify]
 by_cases q:n=i
 ·subst q
  rw [if_pos rfl]
  unfold entsV
  simp [h,entV]
 ·rw [if_neg q]
theorem entsV_key (es:List (Int × Value)) (n:Nat) (k:Int) (v:Value) (h:es[n]? = some (k,v)):(entsV es)[n]? = some (entV (k,v) n):=by
 unfold entsV
 simp [h]
/-- A key is put again with what it had. -/
theorem againV (hm:P.underlying tm=some (.map ti te)) (hi:P.underlying ti=some (.int .i64)) (w:World) (m:Nat) (es:List (Int × Value)) (k:Int) (v:Value) (h:MapV w m es) (hk:getV es k=some v) :
  (Instr.mapUpdate tm (.map (some m)) (.int .i64 k) v).run P w=.ok () (putV w m es):=by
 unfold MapV at h
 unfold Instr.mapUpdate
 simp only [Sem.run_bind,run_underlying hm,Result.andThen]
 rcases runV hi w es k with ⟨g1,_⟩ | ⟨n,v',g1,g2,g3⟩
 ·rw [hk] at g1; cases g1
 ·rw [hk] at g1
  cases g1
  have e1:=entsV_key es n k v g2
  simp only [getObj,Sem.run_bind,Sem.run,h,Result.andThen,Sem.run_pure,check_int hi,g3,setObj,e1,Option.map_some,Option.getD_some,entV,same_int]
  refine congrArg (Result.ok ()) ?_
  unfold putV
  have e2:=entsV_same es n k v g2
  first | rw [e2] | (trace_state; rfl)
end
end Go.Proofs.YtmcoomlkbgiboaaGreatDoor
