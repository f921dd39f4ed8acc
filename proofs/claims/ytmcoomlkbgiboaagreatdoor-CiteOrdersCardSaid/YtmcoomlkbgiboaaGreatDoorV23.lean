/- Documents in memory: inlines and blocks behind slices, and what stands of them when other blocks of memory change. No condition. -/
import Derived.Test.YtmcoomlkbgiboaaGreatDoorV07
import Derived.Test.YtmcoomlkbgiboaaGreatDoorV02
import Derived.Test.YtmcoomlkbgiboaaGreatDoorV08
import Derived.Test.YtmcoomlkbgiboaaGreatDoorV01
import Derived.Deep.AppendLies
import Derived.Sort.WalkA
import Derived.Sort.LotA
set_option linter.all false
namespace Go.Proofs.YtmcoomlkbgiboaaGreatDoor
open Go.RowKit
structure Cit where
 key:Bs
 pre:Bs
 suf:Bs
 bare:Bool
inductive Inl where
 | mk (kind:Int) (text dest title id:Bs) (cls:List Bs) (prs:List Pr) (args:List Bs) (cits:List Cit) (kids:List Inl)
def Inl.kind:Inl->Int|.mk k _ _ _ _ _ _ _ _ _=>k
def Inl.text:Inl->Bs|.mk _ k _ _ _ _ _ _ _ _=>k
def Inl.dest:Inl->Bs|.mk _ _ k _ _ _ _ _ _ _=>k
def Inl.title:Inl->Bs|.mk _ _ _ k _ _ _ _ _ _=>k
def Inl.id:Inl->Bs|.mk _ _ _ _ k _ _ _ _ _=>k
def Inl.cls:Inl->List Bs|.mk _ _ _ _ _ k _ _ _ _=>k
def Inl.prs:Inl->List Pr|.mk _ _ _ _ _ _ k _ _ _=>k
def Inl.args:Inl->List Bs|.mk _ _ _ _ _ _ _ k _ _=>k
def Inl.cits:Inl->List Cit|.mk _ _ _ _ _ _ _ _ k _=>k
def Inl.kids:Inl->List Inl|.mk _ _ _ _ _ _ _ _ _ k=>k
inductive Blo where
 | mk (kind level:Int) (info text dest title id:Bs) (cls:List Bs) (prs:List Pr) (line:List Inl) (kids:List Blo)
def Blo.kind:Blo->Int|.mk k _ _ _ _ _ _ _ _ _ _=>k
def Blo.level:Blo->Int|.mk _ k _ _ _ _ _ _ _ _ _=>k
def Blo.info:Blo->Bs|.mk _ _ k _ _ _ _ _ _ _ _=>k
def Blo.text:Blo->Bs|.mk _ _ _ k _ _ _ _ _ _ _=>k
def Blo.dest:Blo->Bs|.mk _ _ _ _ k _ _ _ _ _ _=>k
def Blo.title:Blo->Bs|.mk _ _ _ _ _ k _ _ _ _ _=>k
def Blo.id:Blo->Bs|.mk _ _ _ _ _ _ k _ _ _ _=>k
def Blo.cls:Blo->List Bs|.mk _ _ _ _ _ _ _ k _ _ _=>k
def Blo.prs:Blo->List Pr|.mk _ _ _ _ _ _ _ _ k _ _=>k
def Blo.line:Blo->List Inl|.mk _ _ _ _ _ _ _ _ _ k _=>k
def Blo.kids:Blo->List Blo|.mk _ _ _ _ _ _ _ _ _ _ k=>k
def Sam (S:Nat->Prop) (w w':World):Prop:=∀ g,g<w.heap.size->S g->w'.heap[g]? = w.heap[g]?
theorem Sam.lt {S:Nat->Prop} {w w':World} (h:Sam S w w') {g:Nat} (hg:g<w.heap.size) (hs:S g):g<w'.heap.size:=by
 rcases Nat.lt_or_ge g w'.heap.size with q|q
 ·exact q
 ·have:=h g hg hs;rw[Array.getElem?_eq_none q,Array.getElem?_eq_getElem hg] at this;cases this
theorem Sam.cell {S:Nat->Prop} {w w':World} (h:Sam S w w') {g:Nat} (o:Nat) (hg:g<w.heap.size) (hs:S g):w'.cell? ⟨g,o,none⟩=w.cell? ⟨g,o,none⟩:=World.cell?_of_block (a:=⟨g,o,none⟩) (h g hg hs)
theorem Sam.only {S T:Nat->Prop} {w w':World} (k:Only T w w') (hs:∀ g,g<w.heap.size->S g->¬ T g):Sam S w w':=fun g hg h=>k.block g hg (hs g hg h)
theorem Sam.kept {S:Nat->Prop} {w w':World} (k:Kept w w'):Sam S w w':=fun g hg _=>k.block g hg
def InB (S:Nat->Prop) (v:Value) (n:Nat):Prop:=0<n->∀ g,v.ownBlock=some g->S g
theorem InB.mono {S S':Nat->Prop} {v:Value} {n:Nat} (h:InB S v n) (k:∀ g,v.ownBlock=some g->0<n->S g->S' g):InB S' v n:=fun q g hg=>k g hg q (h q g hg)
theorem InB.nil (S:Nat->Prop) (v:Value):InB S v 0:=fun q=>absurd q (Nat.lt_irrefl 0)
def RowR {α:Type} (S:Nat->Prop) (k:Nat) (R:List Value->α->Prop) (w:World) (v:Value) (xs:List α):Prop :=
 ∃ a c,v=.slice a xs.length c/\xs.length<=c/\(0<xs.length->∃ g o,a=some ⟨g,o,none⟩/\g<w.heap.size/\S g /\
  ∀ j x,xs[j]? = some x->∃ cs:List Value,cs.length=k/\(∀ i u,cs[i]? = some u->w.cell? ⟨g,o+j * k+i,none⟩=some u)/\R cs x)
section
variable {α:Type} {S S' T:Nat->Prop} {k:Nat} {R R':List Value->α->Prop} {w w':World} {v:Value} {xs:List α}
theorem RowR.form (h:RowR S k R w v xs):∃ a c,v=.slice a xs.length c/\xs.length<=c:=by
 obtain ⟨a,c,hv,hc,_⟩:=h;exact ⟨a,c,hv,hc⟩
theorem RowR.at_ {a:Option Addr} {n c:Nat} (h:RowR S k R w (.slice a n c) xs) (j:Nat) (x:α) (hx:xs[j]? = some x) :
  ∃ g o cs,a=some ⟨g,o,none⟩/\g<w.heap.size/\S g/\cs.length=k/\(∀ i u,cs[i]? = some u->w.cell? ⟨g,o+j * k+i,none⟩=some u)/\R cs x/\n=xs.length/\xs.length<=c:=by
 obtain ⟨a',c',hv,hc,h3⟩:=h;obtain ⟨rfl,rfl,rfl⟩:=Value.slice.inj hv;obtain ⟨hk,_⟩:=List.getElem?_eq_some_iff.1 hx;obtain ⟨g,o,ha,hg,hS,hcell⟩:=h3 (by omega);obtain ⟨cs,h1,h2,h3⟩:=hcell j x hx;exact ⟨g,o,cs,ha,hg,hS,h1,h2,h3,rfl,hc⟩
theorem RowR.step (h:RowR S k R w v xs) (hb:Sam S w w') (hS:∀ g,g<w.heap.size->S g->S' g) (hR:∀ cs x,x∈xs->R cs x->R' cs x):RowR S' k R' w' v xs:=by
 obtain ⟨a,c,hv,hc,h3⟩:=h;refine ⟨a,c,hv,hc,fun q=>?_⟩;obtain ⟨g,o,ha,hg,hs,hcell⟩:=h3 q;refine ⟨g,o,ha,hb.lt hg hs,hS g hg hs,fun j x hx=>?_⟩;obtain ⟨cs,h1,h2,h4⟩:=hcell j x hx;exact ⟨cs,h1,fun i u hu=>(hb.cell _ hg hs).trans (h2 i u hu),hR cs x (List.mem_of_getElem? hx) h4⟩
theorem RowR.none_ (S:Nat->Prop) (k:Nat) (R:List Value->α->Prop) (w:World):RowR S k R w (.slice none 0 0) []:=⟨none,0,rfl,Nat.le_refl _,fun q=>absurd q (by simp)⟩
theorem zo9 {k:Nat}:∀ (css:List (List Value)),(∀ cs∈css,cs.length=k)->∀ (j:Nat) (cs:List Value),css[j]? = some cs->∀ i u,cs[i]? = some u->css.flatten[j * k+i]? = some u
 | [],_,_,_,h,_,_,_=>by cases h
 | c :: css,hl,0,cs,h,i,u,hu=>by
  cases h;rw[List.flatten_cons,Nat.zero_mul,Nat.zero_add,List.getElem?_append_left (List.getElem?_eq_some_iff.1 hu).1];exact hu
 | c :: css,hl,j+1,cs,h,i,u,hu=>by
  have hc:=hl c (by simp);rw[List.flatten_cons,List.getElem?_append_right (by rw[hc,Nat.succ_mul];omega),hc,show (j+1) * k+i - k=j * k+i by rw[Nat.succ_mul];omega];exact zo9 css (fun x hx=>hl x (List.mem_cons_of_mem _ hx)) j cs (by simpa using h) i u hu
theorem zpB {k:Nat}:∀ (css:List (List Value)),(∀ cs∈css,cs.length=k)->css.flatten.length=css.length * k
 | [],_=>by simp
 | c :: css,hl=>by
  rw[List.flatten_cons,List.length_append,zpB css (fun x hx=>hl x (List.mem_cons_of_mem _ hx)),hl c (by simp),List.length_cons,Nat.succ_mul];omega
theorem RowR.own {base:Nat} {e:TypeId} (css:List (List Value)) (hk:∀ cs∈css,cs.length=k) (hl:css.length=xs.length) (h:w.ownsRow base e k v xs.length css.flatten) (hR:∀ (j:Nat) (cs:List Value) (x:α),css[j]? = some cs->xs[j]? = some x->R cs x) (hS:∀ g,v.ownBlock=some g->base<=g->S g):RowR S k R w v xs:=by
 obtain ⟨a,c,hv,hc,_,h3⟩:=zaV h;refine ⟨a,c,hv,hc,fun q=>?_⟩;obtain ⟨g,ha,hb,hg,hcell⟩:=h3 q;refine ⟨g,0,ha,hg,hS g (by rw[hv,ha];rfl) hb,fun j x hx=>?_⟩;have hj:=(List.getElem?_eq_some_iff.1 hx).1;have hcs:css[j]? = some (css[j]'(by omega)):=List.getElem?_eq_getElem (by omega);refine ⟨css[j]'(by omega),hk _ (List.getElem_mem _),fun i u hu=>?_,hR j _ x hcs hx⟩;rw[Nat.zero_add];exact hcell _ u (zo9 css hk j _ hcs i u hu)
end
theorem Strs.sam {S:Nat->Prop} {w w':World} {v:Value} {xs:List Bs} (h:Strs w v xs) (hi:InB S v xs.length) (k:Sam S w w'):Strs w' v xs:=by
 obtain ⟨a,c,hv,hc,h3⟩:=h;refine ⟨a,c,hv,hc,fun q=>?_⟩;obtain ⟨g,o,ha,hg,hcell⟩:=h3 q;have hs:S g:=hi q g (by rw[hv,ha];rfl);exact ⟨g,o,ha,k.lt hg hs,fun j x hx=>(k.cell _ hg hs).trans (hcell j x hx)⟩
theorem Strs.onlS {S T:Nat->Prop} {w w':World} {v:Value} {xs:List Bs} (h:Strs w v xs) (hi:InB S v xs.length) (k:Only T w w') (hs:∀ g,g<w.heap.size->S g->¬ T g):Strs w' v xs:=h.sam hi (Sam.only k hs)
theorem Strs.ltB {w:World} {v:Value} {xs:List Bs} (h:Strs w v xs):InB (fun g=>g<w.heap.size) v xs.length:=fun q g hg=>by
 obtain ⟨a,c,hv,hc,h3⟩:=h;obtain ⟨g',o,ha,hgg,_⟩:=h3 q;rw[hv,ha] at hg;have:g'=g:=(by simpa [Value.ownBlock] using hg);omega
theorem Prs.sam {S:Nat->Prop} {w w':World} {v:Value} {xs:List Pr} (h:Prs w v xs) (hi:InB S v xs.length) (k:Sam S w w'):Prs w' v xs:=by
 obtain ⟨a,c,hv,hc,h3⟩:=h;refine ⟨a,c,hv,hc,fun q=>?_⟩;obtain ⟨g,o,ha,hg,hcell⟩:=h3 q;have hs:S g:=hi q g (by rw[hv,ha];rfl);refine ⟨g,o,ha,k.lt hg hs,fun j x hx=>?_⟩;rw[k.cell _ hg hs,k.cell _ hg hs];exact hcell j x hx
theorem Prs.onlS {S T:Nat->Prop} {w w':World} {v:Value} {xs:List Pr} (h:Prs w v xs) (hi:InB S v xs.length) (k:Only T w w') (hs:∀ g,g<w.heap.size->S g->¬ T g):Prs w' v xs:=h.sam hi (Sam.only k hs)
theorem Prs.ltB {w:World} {v:Value} {xs:List Pr} (h:Prs w v xs):InB (fun g=>g<w.heap.size) v xs.length:=fun q g hg=>by
 obtain ⟨a,c,hv,hc,h3⟩:=h;obtain ⟨g',o,ha,hgg,_⟩:=h3 q;rw[hv,ha] at hg;have:g'=g:=(by simpa [Value.ownBlock] using hg);omega
def CitW (cs:List Value) (c:Cit):Prop:=cs=[.string (bs c.key),.string (bs c.pre),.string (bs c.suf),.bool c.bare]
abbrev Cits (S:Nat->Prop):World->Value->List Cit->Prop:=RowR S 4 CitW
theorem Cits.sam {S S':Nat->Prop} {w w':World} {v:Value} {xs:List Cit} (h:Cits S w v xs) (k:Sam S w w') (hS:∀ g,g<w.heap.size->S g->S' g):Cits S' w' v xs:=h.step k hS (fun _ _ _ h=>h)
def zEP (x:Inl) (vC vP vA vT vK:Value):List Value:=[.int .i64 x.kind,.string (bs x.text),.string (bs x.dest),.string (bs x.title),.string (bs x.id),vC,vP,vA,vT,vK]
def InlW (S:Nat->Prop) (L:World->Value->List Inl->Prop) (w:World) (cs:List Value) (x:Inl):Prop :=
 ∃ vC vP vA vT vK,cs=zEP x vC vP vA vT vK/\(Strs w vC x.cls/\InB S vC x.cls.length)/\(Prs w vP x.prs/\InB S vP x.prs.length)/\(Strs w vA x.args/\InB S vA x.args.length)/\Cits S w vT x.cits/\L w vK x.kids
def Lns (S:Nat->Prop):Nat->World->Value->List Inl->Prop
 | 0,w,v,xs=>xs=[]/\RowR S 10 (fun _ _=>False) w v xs
 | n+1,w,v,xs=>RowR S 10 (InlW S (Lns S n) w) w v xs
theorem InlW.sam {S S':Nat->Prop} {L L':World->Value->List Inl->Prop} {w w':World} {cs:List Value} {x:Inl} (h:InlW S L w cs x) (k:Sam S w w') (hS:∀ g,g<w.heap.size->S g->S' g) (hL:∀ v,L w v x.kids->L' w' v x.kids):InlW S' L' w' cs x:=by
 obtain ⟨vC,vP,vA,vT,vK,rfl,⟨c1,c2⟩,⟨p1,p2⟩,⟨a1,a2⟩,t,kk⟩:=h;exact ⟨vC,vP,vA,vT,vK,rfl,⟨c1.sam c2 k,c2.mono fun g hg q=>hS g (c1.ltB q g hg)⟩,⟨p1.sam p2 k,p2.mono fun g hg q=>hS g (p1.ltB q g hg)⟩,⟨a1.sam a2 k,a2.mono fun g hg q=>hS g (a1.ltB q g hg)⟩,t.sam k hS,hL vK kk⟩
theorem Lns.sam {S S':Nat->Prop}:∀ {n:Nat} {w w':World} {v:Value} {xs:List Inl},Lns S n w v xs->Sam S w w'->(∀ g,g<w.heap.size->S g->S' g)->Lns S' n w' v xs
 | 0,_,_,_,_,h,k,hS=>⟨h.1,RowR.step h.2 k hS (fun _ _ _ h=>h)⟩
 | n+1,_,_,_,_,h,k,hS=>RowR.step (show RowR S 10 _ _ _ _ from h) k hS (fun _ _ _ h=>h.sam k hS (fun _ h=>Lns.sam h k hS))
theorem Lns.kept {S:Nat->Prop} {n:Nat} {w w':World} {v:Value} {xs:List Inl} (h:Lns S n w v xs) (k:Kept w w'):Lns S n w' v xs:=h.sam (Sam.kept k) (fun _ _ q=>q)
theorem Lns.mono {S S':Nat->Prop} {n:Nat} {w:World} {v:Value} {xs:List Inl} (h:Lns S n w v xs) (hS:∀ g,g<w.heap.size->S g->S' g):Lns S' n w v xs:=h.sam (fun _ _ _=>rfl) hS
theorem Lns.form {S:Nat->Prop} {n:Nat} {w:World} {v:Value} {xs:List Inl} (h:Lns S n w v xs):∃ a c,v=.slice a xs.length c/\xs.length<=c:=by
 cases n with
 | zero=>exact RowR.form h.2
 | succ n=>exact RowR.form (show RowR S 10 _ _ _ _ from h)
theorem Lns.none_ (S:Nat->Prop) (n:Nat) (w:World):Lns S n w (.slice none 0 0) []:=by
 cases n with
 | zero=>exact ⟨rfl,RowR.none_ _ _ _ _⟩
 | succ n=>exact (RowR.none_ S 10 _ w:RowR S 10 _ w _ _)
theorem InlW.up {S:Nat->Prop} {L L':World->Value->List Inl->Prop} {w:World} {cs:List Value} {x:Inl} (h:InlW S L w cs x) (hL:∀ v,L w v x.kids->L' w v x.kids):InlW S L' w cs x:=h.sam (fun _ _ _=>rfl) (fun _ _ q=>q) hL
theorem Lns.up {S:Nat->Prop}:∀ {n:Nat} {w:World} {v:Value} {xs:List Inl},Lns S n w v xs->Lns S (n+1) w v xs
 | 0,w,v,xs,h=>by
  obtain ⟨rfl,h⟩:=h;exact RowR.step (S':=S) (R':=InlW S (Lns S 0) w) h (fun _ _ _=>rfl) (fun _ _ q=>q) (fun _ _ _ h=>h.elim)
 | n+1,w,v,xs,h=>RowR.step (show RowR S 10 _ _ _ _ from h) (fun _ _ _=>rfl) (fun _ _ q=>q) (fun _ _ _ h=>h.up (fun _ h=>Lns.up h))
theorem Lns.ups {S:Nat->Prop} {n m:Nat} {w:World} {v:Value} {xs:List Inl} (h:Lns S n w v xs) (k:n<=m):Lns S m w v xs:=by
 induction k with
 | refl=>exact h
 | step _ ih=>exact ih.up
def zFM (x:Blo) (vC vP vL vK:Value):List Value:=[.int .i64 x.kind,.int .i64 x.level,.string (bs x.info),.string (bs x.text),.string (bs x.dest),.string (bs x.title),.string (bs x.id),vC,vP,vL,vK]
def BloW (S:Nat->Prop) (m:Nat) (L:World->Value->List Blo->Prop) (w:World) (cs:List Value) (x:Blo):Prop :=
 ∃ vC vP vL vK,cs=zFM x vC vP vL vK/\(Strs w vC x.cls/\InB S vC x.cls.length)/\(Prs w vP x.prs/\InB S vP x.prs.length)/\Lns S m w vL x.line/\L w vK x.kids
def Bls (S:Nat->Prop) (m:Nat):Nat->World->Value->List Blo->Prop
 | 0,w,v,xs=>xs=[]/\RowR S 11 (fun _ _=>False) w v xs
 | n+1,w,v,xs=>RowR S 11 (BloW S m (Bls S m n) w) w v xs
theorem BloW.sam {S S':Nat->Prop} {m:Nat} {L L':World->Value->List Blo->Prop} {w w':World} {cs:List Value} {x:Blo} (h:BloW S m L w cs x) (k:Sam S w w') (hS:∀ g,g<w.heap.size->S g->S' g) (hL:∀ v,L w v x.kids->L' w' v x.kids):BloW S' m L' w' cs x:=by
 obtain ⟨vC,vP,vL,vK,rfl,⟨c1,c2⟩,⟨p1,p2⟩,l,kk⟩:=h;exact ⟨vC,vP,vL,vK,rfl,⟨c1.sam c2 k,c2.mono fun g hg q=>hS g (c1.ltB q g hg)⟩,⟨p1.sam p2 k,p2.mono fun g hg q=>hS g (p1.ltB q g hg)⟩,l.sam k hS,hL vK kk⟩
theorem Bls.sam {S S':Nat->Prop} {m:Nat}:∀ {n:Nat} {w w':World} {v:Value} {xs:List Blo},Bls S m n w v xs->Sam S w w'->(∀ g,g<w.heap.size->S g->S' g)->Bls S' m n w' v xs
 | 0,_,_,_,_,h,k,hS=>⟨h.1,RowR.step h.2 k hS (fun _ _ _ h=>h)⟩
 | n+1,_,_,_,_,h,k,hS=>RowR.step (show RowR S 11 _ _ _ _ from h) k hS (fun _ _ _ h=>h.sam k hS (fun _ h=>Bls.sam h k hS))
theorem Bls.kept {S:Nat->Prop} {m n:Nat} {w w':World} {v:Value} {xs:List Blo} (h:Bls S m n w v xs) (k:Kept w w'):Bls S m n w' v xs:=h.sam (Sam.kept k) (fun _ _ q=>q)
theorem Bls.mono {S S':Nat->Prop} {m n:Nat} {w:World} {v:Value} {xs:List Blo} (h:Bls S m n w v xs) (hS:∀ g,g<w.heap.size->S g->S' g):Bls S' m n w v xs:=h.sam (fun _ _ _=>rfl) hS
theorem Bls.form {S:Nat->Prop} {m n:Nat} {w:World} {v:Value} {xs:List Blo} (h:Bls S m n w v xs):∃ a c,v=.slice a xs.length c/\xs.length<=c:=by
 cases n with
 | zero=>exact RowR.form h.2
 | succ n=>exact RowR.form (show RowR S 11 _ _ _ _ from h)
theorem Bls.none_ (S:Nat->Prop) (m n:Nat) (w:World):Bls S m n w (.slice none 0 0) []:=by
 cases n with
 | zero=>exact ⟨rfl,RowR.none_ _ _ _ _⟩
 | succ n=>exact (RowR.none_ S 11 _ w:RowR S 11 _ w _ _)
theorem zeH (g o j:Nat):(⟨g,o,none⟩:Addr).add j=⟨g,o+j,none⟩:=by unfold Addr.add;split <;> simp_all
structure ReadK {α:Type} (R:(Nat->Prop)->World->List Value->α->Prop):Prop where
 sam:∀ {S S':Nat->Prop} {w w':World} {cs:List Value} {x:α},R S w cs x->Sam S w w'->(∀ g,g<w.heap.size->S g->S' g)->R S' w' cs x
 one:∀ {S:Nat->Prop} {w:World} {cs:List Value} {x:α},R S w cs x->∀ u∈cs,u.oneCell'=true
def OutG {α:Type} (R:(Nat->Prop)->World->List Value->α->Prop) (k:Nat) (A:Nat->Prop) (base:Nat) (e:TypeId) (w:World) (v:Value) (xs:List α):Prop :=
 ∃ css:List (List Value),css.length=xs.length/\(∀ cs∈css,cs.length=k)/\w.ownsRow base e k v xs.length css.flatten /\
  ∀ (j:Nat) (cs:List Value) (x:α),css[j]? = some cs->xs[j]? = some x->R (fun g=>A g/\v.ownBlock≠some g) w cs x
section
variable {α:Type} {R:(Nat->Prop)->World->List Value->α->Prop} {k:Nat} {A:Nat->Prop} {base:Nat} {e:TypeId} {w w':World} {v:Value} {xs:List α}
theorem OutG.nil (R:(Nat->Prop)->World->List Value->α->Prop) (k:Nat) (A:Nat->Prop) (base:Nat) (e:TypeId) (w:World):OutG R k A base e w (.slice none 0 0) [] :=
 ⟨[],rfl,(fun _ h=>by cases h),World.ownsRow_nil _ _ _ _,(fun _ _ _ h=>by cases h)⟩
theorem OutG.form (h:OutG R k A base e w v xs):∃ a c,v=.slice a xs.length c/\xs.length<=c/\c<=maxLen:=by
 obtain ⟨css,_,_,ho,_⟩:=h;obtain ⟨a,c,hv,hc,hm,_⟩:=zaV ho;exact ⟨a,c,hv,hc,hm⟩
theorem OutG.blk (h:OutG R k A base e w v xs) (g:Nat) (hg:v.ownBlock=some g):base<=g/\g<w.heap.size:=by
 obtain ⟨css,_,_,ho,_⟩:=h;exact ho.lt g hg
theorem OutG.only {T:Nat->Prop} (hR:ReadK R) (h:OutG R k A base e w v xs) (q:Only T w w') (hA:∀ g,g<w.heap.size->A g->v.ownBlock≠some g->¬ T g) (hv:∀ g,v.ownBlock=some g->¬ T g):OutG R k A base e w' v xs:=by
 obtain ⟨css,h1,h2,ho,h4⟩:=h;exact ⟨css,h1,h2,q.own ho hv,fun j cs x hc hx=>hR.sam (h4 j cs x hc hx) (Sam.only q (fun g hg hs=>hA g hg hs.1 hs.2)) (fun _ _ h=>h)⟩
theorem OutG.kept (hR:ReadK R) (h:OutG R k A base e w v xs) (q:Kept w w'):OutG R k A base e w' v xs:=h.only hR (Only.of_kept (S:=fun _=>False) q) (fun _ _ _ _ h=>h) (fun _ _ h=>h)
theorem OutG.mono {A':Nat->Prop} (hR:ReadK R) (h:OutG R k A base e w v xs) (q:∀ g,g<w.heap.size->A g->A' g):OutG R k A' base e w v xs:=by
 obtain ⟨css,h1,h2,ho,h4⟩:=h;exact ⟨css,h1,h2,ho,fun j cs x hc hx=>hR.sam (h4 j cs x hc hx) (fun _ _ _=>rfl) (fun g hg hs=>⟨q g hg hs.1,hs.2⟩)⟩
theorem OutG.low {base':Nat} (h:OutG R k A base e w v xs) (q:base'<=base):OutG R k A base' e w v xs:=by
 obtain ⟨css,h1,h2,ho,h4⟩:=h;exact ⟨css,h1,h2,zt8 ho q,h4⟩
theorem OutG.row {S:Nat->Prop} (hR:ReadK R) (h:OutG R k A base e w v xs) (hA:∀ g,g<w.heap.size->A g->S g) (hB:∀ g,base<=g->S g):RowR S k (R S w) w v xs:=by
 obtain ⟨css,h1,h2,ho,h4⟩:=h;exact RowR.own css h2 h1 ho (fun j cs x hc hx=>hR.sam (h4 j cs x hc hx) (fun _ _ _=>rfl) (fun g hg hs=>hA g hg hs.1)) (fun g _ hb=>hB g hb)
theorem zzU {k:Nat} (hk:0<k) (css:List (List Value)) (hl:∀ cs∈css,cs.length=k) (t:Nat) (u:Value) (h:css.flatten[t]? = some u):∃ j i cs,t=j * k+i/\css[j]? = some cs/\cs[i]? = some u:=by
 have ht:=(List.getElem?_eq_some_iff.1 h).1;rw[zpB css hl] at ht;have hj:t / k<css.length:=(by rw[Nat.div_lt_iff_lt_mul hk];exact ht);have hc:css[t / k]? = some css[t / k]:=List.getElem?_eq_getElem hj;have hcl:=hl _ (List.getElem_mem hj);have hi:t % k<css[t / k].length:=(by rw[hcl];exact Nat.mod_lt _ hk);have hu:css[t / k][t % k]? = some css[t / k][t % k]:=List.getElem?_eq_getElem hi;have e:=zo9 css hl (t / k) _ hc (t % k) _ hu;have et:t / k * k+t % k=t:=(by rw[Nat.mul_comm];exact Nat.div_add_mod t k);rw[et,h] at e;exact ⟨t / k,t % k,_,et.symm,hc,by rw[hu,<- e]⟩
theorem RowR.css {S:Nat->Prop} {Q:List Value->α->Prop} {a:Option Addr} {n c:Nat} (hk:0<k) (h:RowR S k Q w (.slice a n c) xs):∃ css:List (List Value),css.length=xs.length/\(∀ cs∈css,cs.length=k)/\(∀ (j:Nat) (cs:List Value) (x:α),css[j]? = some cs->xs[j]? = some x->Q cs x) /\
  (0<xs.length->∃ g o,a=some ⟨g,o,none⟩/\g<w.heap.size/\S g/\∀ t u,css.flatten[t]? = some u->w.cell? ⟨g,o+t,none⟩=some u):=by
 obtain ⟨a',c',hv,hc,h3⟩:=h;obtain ⟨rfl,rfl,rfl⟩:=Value.slice.inj hv;by_cases q:0<xs.length
 ·obtain ⟨g,o,ha,hg,hS,hcell⟩:=h3 q;have key:∀ ys:List α,∀ d:Nat,(∀ j x,ys[j]? = some x->∃ cs:List Value,cs.length=k/\(∀ i u,cs[i]? = some u->w.cell? ⟨g,o+(d+j) * k+i,none⟩=some u)/\Q cs x) ->
    ∃ css:List (List Value),css.length=ys.length/\(∀ cs∈css,cs.length=k)/\(∀ (j:Nat) (cs:List Value) (x:α),css[j]? = some cs->ys[j]? = some x->Q cs x)/\∀ (j:Nat) (cs:List Value),css[j]? = some cs->∀ i u,cs[i]? = some u->w.cell? ⟨g,o+(d+j) * k+i,none⟩=some u:=by
   intro ys
   induction ys with
   | nil=>intro d _;exact ⟨[],rfl,(fun _ h=>by cases h),(fun _ _ _ h=>by cases h),(fun _ _ h=>by cases h)⟩
   | cons y ys ih =>
    intro d hy;obtain ⟨cs0,l0,c0,r0⟩:=hy 0 y rfl;obtain ⟨css,e1,e2,e3,e4⟩:=ih (d+1) (fun j x hx=>by
     have:=hy (j+1) x (by simpa using hx);rw[show d+(j+1)=d+1+j by omega] at this;exact this)
    refine ⟨cs0 :: css,by simp [e1],?_,?_,?_⟩
    ·intro cs hcs;rcases List.mem_cons.1 hcs with rfl|hcs
     ·exact l0
     ·exact e2 cs hcs
    ·intro j cs x hc hx;cases j with
     | zero=>cases hc;cases hx;exact r0
     | succ j=>exact e3 j cs x (by simpa using hc) (by simpa using hx)
    ·intro j cs hc i u hu;cases j with
     | zero=>cases hc;exact c0 i u hu
     | succ j =>
      have:=e4 j cs (by simpa using hc) i u hu;rw[show d+(j+1)=d+1+j by omega];exact this
  obtain ⟨css,e1,e2,e3,e4⟩:=key xs 0 (fun j x hx=>by rw[Nat.zero_add];exact hcell j x hx);refine ⟨css,e1,e2,e3,fun _=>⟨g,o,ha,hg,hS,fun t u ht=>?_⟩⟩;obtain ⟨j,i,cs,rfl,hcj,hi⟩:=zzU hk css e2 t u ht;have:=e4 j cs hcj i u hi;rw[Nat.zero_add] at this;rw[<- Nat.add_assoc];exact this
 ·obtain rfl:xs=[]:=List.length_eq_zero_iff.1 (by omega);exact ⟨[],rfl,(fun _ h=>by cases h),(fun _ _ _ h=>by cases h),(fun h=>absurd h (by simp))⟩
theorem OutG.app {ys:List α} {css css2:List (List Value)} {g cap:Nat} (hR:ReadK R) (h1:css.length=xs.length) (h2:∀ cs∈css,cs.length=k) (h4:∀ (j:Nat) (cs:List Value) (x:α),css[j]? = some cs->xs[j]? = some x->R (fun g=>A g/\v.ownBlock≠some g) w cs x)
  (k1:css2.length=ys.length) (k2:∀ cs∈css2,cs.length=k) (k4:∀ (j:Nat) (cs:List Value) (x:α),css2[j]? = some cs->ys[j]? = some x->R (fun g=>A g/\v.ownBlock≠some g) w cs x)
  (ho:w'.ownsRow base e k (.slice (some ⟨g,0,none⟩) (xs.length+ys.length) cap) (xs.length+ys.length) (css.flatten ++ css2.flatten)) (hg:w.grownBy w' v.ownBlock) (hat:v.ownBlock=some g\/g=w.heap.size):OutG R k A base e w' (.slice (some ⟨g,0,none⟩) (xs.length+ys.length) cap) (xs ++ ys):=by
 have hst:∀ cs x,R (fun g=>A g/\v.ownBlock≠some g) w cs x->R (fun g'=>A g'/\(Value.slice (some ⟨g,0,none⟩) (xs.length+ys.length) cap).ownBlock≠some g') w' cs x:=fun cs x hx =>
  hR.sam hx (Sam.only (Only.grown hg) (fun g' _ hs q=>hs.2 q.symm)) (fun g' hlt hs=>⟨hs.1,fun q=>by
   have e1:g=g':=(by simpa [Value.ownBlock] using q);rcases hat with q2|q2
   ·exact hs.2 (by rw[q2,e1])
   ·omega⟩)
 refine ⟨css ++ css2,by simp [h1,k1],fun cs hcs=>(List.mem_append.1 hcs).elim (h2 cs) (k2 cs),?_,fun j cs x hc hx=>?_⟩
 ·rw[List.flatten_append,List.length_append];exact ho
 ·rcases Nat.lt_or_ge j xs.length with q|q
  ·rw[List.getElem?_append_left (by omega)] at hc hx;exact hst cs x (h4 j cs x hc hx)
  ·rw[List.getElem?_append_right (by omega)] at hc hx;rw[h1] at hc;exact hst cs x (k4 _ cs x hc hx)
theorem zaS {P:Program} (hR:ReadK R) {ops:Array Oper} {rest:List Oper} {o:Oper} {a:Act} {Q:Exit->Act->World->Prop} (hgd:o.guard=none) (s x:Operand) (t:TypeId)
  (ho:o.op=.call { callee:=.builtin .append,args:=#[s,x],argTypes:=#[t,t] })
  (i:TypeInfo) (z:Value) (bytes:Nat) (ht:P.underlying t=some (.slice e)) (hi:P.info? e=some i) (hz:i.zero=some z) (hsize:i.size=k) (hby:i.bytes=bytes) (hzs:z.cells.size=k) (hsz:0<k)
  (hs:a.eval s=v) (hown:OutG R k A base e w v xs) (g0:Nat) (cs:List Value) (y:α) (hx:a.eval x=.slice (some ⟨g0,0,none⟩) 1 1) (hb:∀ j u,cs[j]? = some u->w.cell? ⟨g0,j,none⟩=some u) (hcl:cs.length=k)
  (hy:R (fun g=>A g/\v.ownBlock≠some g) w cs y) (h63:xs.length+1<=maxLen) (hbytes:(xs.length+1) * bytes<=140737488355328) (hbase:base<=w.heap.size) (H:Nat) (hH:w.heap.size=H)
  (h:∀ g cap w',OutG R k A base e w' (.slice (some ⟨g,0,none⟩) (xs.length+1) cap) (xs ++ [y])->w.grownBy w' v.ownBlock->(v.ownBlock=some g\/g=H)->g<w'.heap.size->wpList P ops Q rest (a.put o.dst (.slice (some ⟨g,0,none⟩) (xs.length+1) cap)) w'):wpList P ops Q (o :: rest) a w:=by
 obtain ⟨css,h1,h2,ho2,h4⟩:=hown;refine wpList_append_lies w hgd s x t ho base e i z k bytes ht hi hz hsize hby hzs hsz v xs.length css.flatten hs ho2 ⟨g0,0,none⟩ 1 1 cs hx (by rw[hcl,Nat.one_mul]) (fun j u hu=>by rw[zeH,Nat.zero_add];exact hb j u hu) (hR.one hy) (by omega) h63 hbytes hbase H hH ?_;intro g cap w' q1 q2 q3 q4;refine h g cap w' ?_ q2 q3 q4;subst hH;exact OutG.app (ys:=[y]) (css2:=[cs]) hR h1 h2 h4 rfl (fun c hc=>by simp at hc;subst hc;exact hcl) (fun j c u hc hu=>by
  cases j with
  | zero=>cases hc;cases hu;exact hy
  | succ j=>simp at hc) (by simpa using q1) q2 q3
end
theorem InlW.one {S:Nat->Prop} {L:World->Value->List Inl->Prop} (hL:∀ w v xs,L w v xs->v.oneCell'=true) {w:World} {cs:List Value} {x:Inl} (h:InlW S L w cs x):∀ u∈cs,u.oneCell'=true:=by
 obtain ⟨vC,vP,vA,vT,vK,rfl,⟨⟨_,_,rfl,_⟩,_⟩,⟨⟨_,_,rfl,_⟩,_⟩,⟨⟨_,_,rfl,_⟩,_⟩,⟨_,_,rfl,_⟩,kk⟩:=h;have:=hL _ _ _ kk;intro u hu;unfold zEP at hu;simp only[List.mem_cons,List.not_mem_nil,or_false] at hu;rcases hu with rfl|rfl|rfl|rfl|rfl|rfl|rfl|rfl|rfl|rfl <;> first|rfl|exact this
theorem Lns.one {S:Nat->Prop} {n:Nat} {w:World} {v:Value} {xs:List Inl} (h:Lns S n w v xs):v.oneCell'=true:=by
 obtain ⟨a,c,rfl,_⟩:=h.form;rfl
theorem Bls.one {S:Nat->Prop} {m n:Nat} {w:World} {v:Value} {xs:List Blo} (h:Bls S m n w v xs):v.oneCell'=true:=by
 obtain ⟨a,c,rfl,_⟩:=h.form;rfl
theorem BloW.one {S:Nat->Prop} {m:Nat} {L:World->Value->List Blo->Prop} (hL:∀ w v xs,L w v xs->v.oneCell'=true) {w:World} {cs:List Value} {x:Blo} (h:BloW S m L w cs x):∀ u∈cs,u.oneCell'=true:=by
 obtain ⟨vC,vP,vL,vK,rfl,⟨⟨_,_,rfl,_⟩,_⟩,⟨⟨_,_,rfl,_⟩,_⟩,l,kk⟩:=h;have h1:=l.one;have h2:=hL _ _ _ kk;intro u hu;unfold zFM at hu;simp only[List.mem_cons,List.not_mem_nil,or_false] at hu;rcases hu with rfl|rfl|rfl|rfl|rfl|rfl|rfl|rfl|rfl|rfl|rfl <;> first|rfl|exact h1|exact h2
def InlK (n:Nat) (S:Nat->Prop) (w:World):List Value->Inl->Prop:=InlW S (Lns S n) w
def BloK (m n:Nat) (S:Nat->Prop) (w:World):List Value->Blo->Prop:=BloW S m (Bls S m n) w
theorem zgH (n:Nat):ReadK (InlK n):=⟨fun h k hS=>InlW.sam h k hS (fun _ h=>Lns.sam h k hS),fun h=>InlW.one (fun _ _ _ h=>Lns.one h) h⟩
theorem zBi (m n:Nat):ReadK (BloK m n):=⟨fun h k hS=>BloW.sam h k hS (fun _ h=>Bls.sam h k hS),fun h=>BloW.one (fun _ _ _ h=>Bls.one h) h⟩
def StrK (S:Nat->Prop) (w:World) (cs:List Value) (x:Bs):Prop:=cs=[.string (bs x)]
theorem zkO:ReadK StrK:=⟨fun h _ _=>h,fun h u hu=>by rw[h] at hu;simp at hu;subst hu;rfl⟩
end Go.Proofs.YtmcoomlkbgiboaaGreatDoor
namespace Go.Proofs.YtmcoomlkbgiboaaGreatDoor
open Go.Sort
section
variable {α:Type} (cf:α->α->Int)
def zxP (x:α):List α->List α
 | []=>[x]
 | y :: ys=>if 0<cf y x then y :: zxP x ys else x :: y :: ys
def zrB (out:List α) (x:α):List α:=(zxP cf x out.reverse).reverse
def zkP (l:List α):List α:=l.foldl (zrB cf) []
structure PreO:Prop where
 anti:∀ x y,cf x y<0↔0<cf y x
 trans:∀ x y z,cf x y<=0->cf y z<=0->cf x z<=0
variable {cf}
theorem zrC (x:α):∀ (r1 r2:List α),(∀ y∈r1,0<cf y x)->(∀ y,r2.head? = some y->¬ 0<cf y x)->zxP cf x (r1 ++ r2)=r1 ++ x :: r2
 | [],[],_,_=>rfl
 | [],y :: ys,_,h=>by
  show (if 0<cf y x then y :: zxP cf x ys else x :: y :: ys)=_;rw[if_neg (h y rfl)];rfl
 | y :: ys,r2,h1,h2=>by
  show (if 0<cf y x then y :: zxP cf x (ys ++ r2) else x :: y :: (ys ++ r2))=_;rw[if_pos (h1 y (List.mem_cons_self ..)),zrC x ys r2 (fun z hz=>h1 z (List.mem_cons_of_mem _ hz)) h2];rfl
theorem zzV (out:List α) (x:α) (a:Nat) (ha:a<=out.length) (h1:∀ y∈out.drop a,0<cf y x) (h2:∀ y,0<a->out[a - 1]? = some y->¬ 0<cf y x):zrB cf out x=out.take a ++ x :: out.drop a:=by
 unfold zrB;have e:out.reverse=(out.drop a).reverse ++ (out.take a).reverse:=(by rw[<- List.reverse_append,List.take_append_drop]);rw[e,zrC x _ _ (fun y hy=>h1 y (List.mem_reverse.1 hy)) ?_]
 ·simp
 ·intro y hy;rw[List.head?_reverse] at hy;by_cases h0:a=0
  ·subst h0;simp at hy
  ·refine h2 y (by omega) ?_;rw[List.getLast?_eq_getElem?,List.length_take,Nat.min_eq_left ha,List.getElem?_take_of_lt (by omega)] at hy;exact hy
theorem zrD (x:α):∀ l:List α,(zxP cf x l).Perm (x :: l)
 | []=>.refl _
 | y :: ys=>by
  show (if 0<cf y x then y :: zxP cf x ys else x :: y :: ys).Perm _
  split
  ·exact ((zrD x ys).cons y).trans (List.Perm.swap x y ys)
  ·exact .refl _
theorem zzW (out:List α) (x:α):(zrB cf out x).Perm (x :: out):=by
 unfold zrB;exact (List.reverse_perm _).trans ((zrD x _).trans ((List.reverse_perm out).cons x))
theorem zn4 (l:List α):(zkP cf l).Perm l:=by
 have key:∀ (l out:List α),(l.foldl (zrB cf) out).Perm (out ++ l):=by
  intro l
  induction l with
  | nil=>intro out;simp
  | cons x l ih =>
   intro out;refine (ih _).trans ?_;refine ((zzW out x).append_right l).trans ?_;have h:=(List.perm_middle (a:=x) (l₁:=out) (l₂:=l)).symm;exact h
 exact key l []
theorem zrE (l:List α):(zkP cf l).length=l.length:=(zn4 l).length_eq
theorem zn5 (l:List α) (x:α):zkP cf (l ++ [x])=zrB cf (zkP cf l) x:=by unfold zkP;rw[List.foldl_append];rfl
def ltS (cf:α->α->Int) (x y:α):Bool:=decide (cf x y<0)
variable [Inhabited α]
theorem zpC {d:Array α} {i:Nat} {x:α} (h:d.toList[i]? = some x):d[i]! = x:=by
 rw[Array.getElem?_toList] at h;rw[getElem!_def,h]
theorem zD8 (d:Array α) (out:List α) (y x:α) (rest:List α) (h:d.toList=out ++ y :: x :: rest):(swp d (out.length+1) out.length).toList=out ++ x :: y :: rest:=by
 have hy:d[out.length]! = y:=zpC (by rw[h];simp);have hx:d[out.length+1]! = x:=zpC (by rw[h];simp);unfold swp;rw[Array.toList_setIfInBounds,Array.toList_setIfInBounds,hy,hx,h];simp
theorem zrF (h:∀ x y,cf x y<0↔0<cf y x):∀ (n:Nat) (d:Array α) (out:List α) (x:α) (rest:List α),out.length=n->d.toList=out ++ x :: rest->(insInner (ltS cf) 0 n d).toList=zrB cf out x ++ rest:=by
 intro n
 induction n with
 | zero =>
  intro d out x rest hn hd;obtain rfl:=List.length_eq_zero_iff.1 hn;rw[insInner_stop _ _ _ _ (.inl (Nat.le_refl _)),hd];rfl
 | succ n ih =>
  intro d out x rest hn hd;obtain ⟨o,y,rfl⟩:∃ o y,out=o ++ [y]:=⟨out.dropLast,out.getLast (by intro q;subst q;cases hn),(List.dropLast_concat_getLast _).symm⟩;have hl:o.length=n:=(by simpa using hn);have hd':d.toList=o ++ y :: x :: rest:=(by rw[hd];simp);have hy:d[n]! = y:=zpC (by rw[hd',<- hl];simp);have hx:d[n+1]! = x:=zpC (by rw[hd',<- hl];simp);have e:zrB cf (o ++ [y]) x=if 0<cf y x then zrB cf o x ++ [y] else o ++ [y] ++ [x]:=by
   unfold zrB;rw[List.reverse_append];show ((if 0<cf y x then y :: zxP cf x o.reverse else x :: y :: o.reverse)).reverse=_
   split <;> simp
  by_cases q:0<cf y x
  ·rw[insInner_go _ _ _ _ (by omega) (by rw[hx,show n+1 - 1=n from rfl,hy];exact decide_eq_true ((h x y).2 q)),show n+1 - 1=n from rfl];have hs:=zD8 d o y x rest hd';rw[hl] at hs;rw[ih _ o x (y :: rest) hl hs,e,if_pos q];simp
  ·rw[insInner_stop _ _ _ _ (.inr (by rw[hx,show n+1 - 1=n from rfl,hy];exact decide_eq_false (fun r=>q ((h x y).1 r)))),e,if_neg q,hd];simp
theorem zrG (h:∀ x y,cf x y<0↔0<cf y x) (b:Nat):∀ (n i:Nat) (d:Array α) (done rest:List α),b - i=n->i<=b->done.length=i->rest.length=b - i->d.toList=zkP cf done ++ rest->(insOuter (ltS cf) 0 b i d).toList=zkP cf (done ++ rest):=by
 intro n
 induction n with
 | zero =>
  intro i d done rest hn hi hl hr hd;obtain rfl:=List.length_eq_zero_iff.1 (show rest.length=0 by omega);rw[insOuter_stop _ _ _ _ _ (by omega),hd];simp
 | succ n ih =>
  intro i d done rest hn hi hl hr hd;cases rest with
  | nil=>simp at hr;omega
  | cons x rest =>
   rw[insOuter_go _ _ _ _ _ (by omega)];have h1:=zrF h i d (zkP cf done) x rest (by rw[zrE,hl]) hd;rw[<- zn5] at h1;have h2:=ih (i+1) (insInner (ltS cf) 0 i d) (done ++ [x]) rest (by omega) (by omega) (by simp [hl]) (by simp at hr;omega) h1;rw[h2];simp
theorem zpD (h:∀ x y,cf x y<0↔0<cf y x) (l:List α):(insertionSort (ltS cf) l.toArray 0 l.length).toList=zkP cf l:=by
 unfold insertionSort;cases l with
 | nil=>rw[insOuter_stop _ _ _ _ _ (by simp)];rfl
 | cons x l =>
  have:=zrG h (x :: l).length l.length 1 (x :: l).toArray [x] l (by simp) (by simp) rfl (by simp) rfl;exact this
end
end Go.Proofs.YtmcoomlkbgiboaaGreatDoor
namespace Go.Proofs.YtmcoomlkbgiboaaGreatDoor
section
variable {α:Type}
def zE3:List (α->α->Int)->α->α->Int
 | [],_,_=>0
 | f :: fs,x,y=>if f x y≠0 then f x y else zE3 fs x y
theorem PreO.zero {f:α->α->Int} (h:PreO f) (x y:α):f x y=0↔f y x=0:=by
 have h1:=h.anti x y;have h2:=h.anti y x;constructor <;> intro q <;> omega
theorem PreO.lt {f:α->α->Int} (h:PreO f) {x y z:α} (h1:f x y<=0) (h2:f y z<0):f x z<0:=by
 have h3:=h.trans x y z h1 (by omega);rcases Int.lt_or_eq_of_le h3 with q|q
 ·exact q
 ·have h4:=h.trans z x y (by rw[(h.zero x z).1 q];exact Int.le_refl _) h1;have h5:=(h.anti y z).1 h2;omega
theorem PreO.lt' {f:α->α->Int} (h:PreO f) {x y z:α} (h1:f x y<0) (h2:f y z<=0):f x z<0:=by
 have h3:=h.trans x y z (by omega) h2;rcases Int.lt_or_eq_of_le h3 with q|q
 ·exact q
 ·have h4:=h.trans y z x h2 (by rw[(h.zero x z).1 q];exact Int.le_refl _);have h5:=(h.anti x y).1 h1;omega
theorem zuW:∀ (fs:List (α->α->Int)),(∀ f∈fs,PreO f)->PreO (zE3 fs)
 | [],_=>⟨fun x y=>by show (0:Int)<0↔(0:Int)<0;exact Iff.rfl,fun x y z _ _=>Int.le_refl _⟩
 | f :: fs,h=>by
  have hf:=h f (List.mem_cons_self ..);have ih:=zuW fs (fun g hg=>h g (List.mem_cons_of_mem _ hg));have e:∀ x y,zE3 (f :: fs) x y=if f x y≠0 then f x y else zE3 fs x y:=fun _ _=>rfl;refine ⟨fun x y=>?_,fun x y z h1 h2=>?_⟩
  ·rw[e,e];by_cases q:f x y=0
   ·have q2:=(hf.zero x y).1 q;rw[if_neg (by omega),if_neg (by omega)];exact ih.anti x y
   ·have q2:f y x≠0:=fun r=>q ((hf.zero x y).2 r);rw[if_pos q,if_pos q2];exact hf.anti x y
  ·rw[e] at h1 h2 ⊢;by_cases q1:f x y=0
   ·rw[if_neg (by omega)] at h1;by_cases q2:f y z=0
    ·rw[if_neg (by omega)] at h2;have q3:f x z=0:=by
      have a1:=hf.trans x y z (by omega) (by omega);have a2:=hf.trans z y x (by rw[(hf.zero y z).1 q2];exact Int.le_refl _) (by rw[(hf.zero x y).1 q1];exact Int.le_refl _);have a3:=hf.anti x z;have a4:=hf.anti z x;omega
     rw[if_neg (by omega)];exact ih.trans x y z h1 h2
    ·rw[if_pos q2] at h2;have:=hf.lt (x:=x) (y:=y) (z:=z) (by omega) (by omega);rw[if_pos (by omega)];omega
   ·rw[if_pos q1] at h1;have q2:f y z<=0:=by
     by_cases q2:f y z=0
     ·omega
     ·rw[if_pos q2] at h2;exact h2
    have:=hf.lt' (x:=x) (y:=y) (z:=z) (by omega) q2;rw[if_pos (by omega)];omega
def zBj (a b:Int):Int:=if a<b then -1 else if b<a then 1 else 0
theorem zB9 (f:α->Int):PreO (fun x y=>zBj (f x) (f y)):=by
 refine ⟨fun x y=>?_,fun x y z h1 h2=>?_⟩
 ·unfold zBj
  split <;> split <;> (try split) <;> omega
 ·unfold zBj at *
  split at h1 <;> split at h2 <;> (try split at h1) <;> (try split at h2) <;> split <;> (try split) <;> omega
end
end Go.Proofs.YtmcoomlkbgiboaaGreatDoor
