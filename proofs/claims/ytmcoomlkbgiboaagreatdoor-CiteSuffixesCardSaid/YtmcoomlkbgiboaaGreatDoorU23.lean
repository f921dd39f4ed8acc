/- Lists of structs that a call makes by appending: what lies in the row that it owns. No condition. -/
import Derived.Test.YtmcoomlkbgiboaaGreatDoorU22
import Derived.Test.YtmcoomlkbgiboaaGreatDoorU01
import Derived.Test.YtmcoomlkbgiboaaGreatDoorU13
import Derived.Deep.AppendLies
import Derived.Sort.WalkA
import Derived.Sort.LotA
set_option linter.all false
namespace Go.Proofs.YtmcoomlkbgiboaaGreatDoor
open Go.RowKit
theorem zeI (g o j:Nat):(⟨g,o,none⟩:Addr).add j=⟨g,o+j,none⟩:=by unfold Addr.add;split <;> simp_all
structure ReadK {α:Type} (R:(Nat->Prop)->World->List Value->α->Prop):Prop where
 sam:∀ {S S':Nat->Prop} {w w':World} {cs:List Value} {x:α},R S w cs x->Sam S w w'->(∀ g,g<w.heap.size->S g->S' g)->R S' w' cs x
 one:∀ {S:Nat->Prop} {w:World} {cs:List Value} {x:α},R S w cs x->∀ u∈cs,u.oneCell'=true
def OutG {α:Type} (R:(Nat->Prop)->World->List Value->α->Prop) (k:Nat) (A:Nat->Prop) (base:Nat) (e:TypeId) (w:World) (v:Value) (xs:List α):Prop :=
 ∃ css:List (List Value),css.length=xs.length/\(∀ cs∈css,cs.length=k)/\w.ownsRow base e k v xs.length css.flatten /\
  ∀ (j:Nat) (cs:List Value) (x:α),css[j]? = some cs->xs[j]? = some x->R (fun g=>A g/\v.ownBlock≠some g) w cs x
section
variable {α:Type} {R:(Nat->Prop)->World->List Value->α->Prop} {k:Nat} {A:Nat->Prop} {base:Nat} {e:TypeId} {w w':World} {v:Value} {xs:List α}
theorem OutG.nil (R:(Nat->Prop)->World->List Value->α->Prop) (k:Nat) (A:Nat->Prop) (base:Nat) (e:TypeId) (w:World):OutG R k A base e w (.slice none 0 0) [] :=
 ⟨[],rfl,(fun _ h=>by cases h),World.ownsRow_nil _ _ _ _,(fun _ _ _ h=>by cases h)⟩
theorem OutG.form (h:OutG R k A base e w v xs):∃ a c,v=.slice a xs.length c/\xs.length<=c/\c<=maxLen:=by
 obtain ⟨css,_,_,ho,_⟩:=h;obtain ⟨a,c,hv,hc,hm,_⟩:=za1 ho;exact ⟨a,c,hv,hc,hm⟩
theorem OutG.blk (h:OutG R k A base e w v xs) (g:Nat) (hg:v.ownBlock=some g):base<=g/\g<w.heap.size:=by
 obtain ⟨css,_,_,ho,_⟩:=h;exact ho.lt g hg
theorem OutG.only {T:Nat->Prop} (hR:ReadK R) (h:OutG R k A base e w v xs) (q:Only T w w') (hA:∀ g,g<w.heap.size->A g->v.ownBlock≠some g->¬ T g) (hv:∀ g,v.ownBlock=some g->¬ T g):OutG R k A base e w' v xs:=by
 obtain ⟨css,h1,h2,ho,h4⟩:=h;exact ⟨css,h1,h2,q.own ho hv,fun j cs x hc hx=>hR.sam (h4 j cs x hc hx) (Sam.only q (fun g hg hs=>hA g hg hs.1 hs.2)) (fun _ _ h=>h)⟩
theorem OutG.kept (hR:ReadK R) (h:OutG R k A base e w v xs) (q:Kept w w'):OutG R k A base e w' v xs:=h.only hR (Only.of_kept (S:=fun _=>False) q) (fun _ _ _ _ h=>h) (fun _ _ h=>h)
theorem OutG.mono {A':Nat->Prop} (hR:ReadK R) (h:OutG R k A base e w v xs) (q:∀ g,g<w.heap.size->A g->A' g):OutG R k A' base e w v xs:=by
 obtain ⟨css,h1,h2,ho,h4⟩:=h;exact ⟨css,h1,h2,ho,fun j cs x hc hx=>hR.sam (h4 j cs x hc hx) (fun _ _ _=>rfl) (fun g hg hs=>⟨q g hg hs.1,hs.2⟩)⟩
theorem OutG.low {base':Nat} (h:OutG R k A base e w v xs) (q:base'<=base):OutG R k A base' e w v xs:=by
 obtain ⟨css,h1,h2,ho,h4⟩:=h;exact ⟨css,h1,h2,ztI ho q,h4⟩
theorem OutG.row {S:Nat->Prop} (hR:ReadK R) (h:OutG R k A base e w v xs) (hA:∀ g,g<w.heap.size->A g->S g) (hB:∀ g,base<=g->S g):RowR S k (R S w) w v xs:=by
 obtain ⟨css,h1,h2,ho,h4⟩:=h;exact RowR.own css h2 h1 ho (fun j cs x hc hx=>hR.sam (h4 j cs x hc hx) (fun _ _ _=>rfl) (fun g hg hs=>hA g hg hs.1)) (fun g _ hb=>hB g hb)
theorem zy1 {k:Nat} (hk:0<k) (css:List (List Value)) (hl:∀ cs∈css,cs.length=k) (t:Nat) (u:Value) (h:css.flatten[t]? = some u):∃ j i cs,t=j * k+i/\css[j]? = some cs/\cs[i]? = some u:=by
 have ht:=(List.getElem?_eq_some_iff.1 h).1;rw[zoX css hl] at ht;have hj:t / k<css.length:=(by rw[Nat.div_lt_iff_lt_mul hk];exact ht);have hc:css[t / k]? = some css[t / k]:=List.getElem?_eq_getElem hj;have hcl:=hl _ (List.getElem_mem hj);have hi:t % k<css[t / k].length:=(by rw[hcl];exact Nat.mod_lt _ hk);have hu:css[t / k][t % k]? = some css[t / k][t % k]:=List.getElem?_eq_getElem hi;have e:=zoW css hl (t / k) _ hc (t % k) _ hu;have et:t / k * k+t % k=t:=(by rw[Nat.mul_comm];exact Nat.div_add_mod t k);rw[et,h] at e;exact ⟨t / k,t % k,_,et.symm,hc,by rw[hu,<- e]⟩
theorem RowR.css {S:Nat->Prop} {Q:List Value->α->Prop} {a:Option Addr} {n c:Nat} (hk:0<k) (h:RowR S k Q w (.slice a n c) xs):∃ css:List (List Value),css.length=xs.length/\(∀ cs∈css,cs.length=k)/\(∀ (j:Nat) (cs:List Value) (x:α),css[j]? = some cs->xs[j]? = some x->Q cs x) /\
  (0<xs.length->∃ g o,a=some ⟨g,o,none⟩/\g<w.heap.size/\S g/\∀ t u,css.flatten[t]? = some u->w.cell? ⟨g,o+t,none⟩=some u):=by
 obtain ⟨a',c',hv,hc,h3⟩:=h;obtain ⟨rfl,rfl,rfl⟩:=Value.slice.inj hv;by_cases q:0<xs.length
 ·obtain ⟨g,o,ha,hg,hS,hcell⟩:=h3 q;have key:∀ ys:List α,∀ d:Nat,(∀ j x,ys[j]? = some x->∃ cs:List Value,cs.length=k/\(∀ i u,cs[i]? = some u->w.cell? ⟨g,o+(d+j) * k+i,none⟩=some u)/\Q cs x) ->
    ∃ css:List (List Value),css.length=ys.length/\(∀ cs∈css,cs.length=k)/\(∀ (j:Nat) (cs:List Value) (x:α),css[j]? = some cs->ys[j]? = some x->Q cs x)/\∀ (j:Nat) (cs:List Value),css[j]? = some cs->∀ i u,cs[i]? = some u->w.cell? ⟨g,o+(d+j) * k+i,none⟩=some u:=by
   intro ys
   induction ys with
   | nil=>intro d _;exact ⟨[],rfl,(fun _ h=>by cases h),(fun _ _ _ h=>by cases h),(fun _ _ h=>by cases h)⟩
   | cons y ys ih =>
    intro d hy;obtain ⟨cs0,l0,c0,r0⟩:=hy 0 y rfl;obtain ⟨css,e1,e2,e3,e4⟩:=ih (d+1) (fun j x hx=>by
     have:=hy (j+1) x (by simpa using hx);rw[show d+(j+1)=d+1+j by omega] at this;exact this)
    refine ⟨cs0 :: css,by simp [e1],?_,?_,?_⟩
    ·intro cs hcs;rcases List.mem_cons.1 hcs with rfl|hcs
     ·exact l0
     ·exact e2 cs hcs
    ·intro j cs x hc hx;cases j with
     | zero=>cases hc;cases hx;exact r0
     | succ j=>exact e3 j cs x (by simpa using hc) (by simpa using hx)
    ·intro j cs hc i u hu;cases j with
     | zero=>cases hc;exact c0 i u hu
     | succ j =>
      have:=e4 j cs (by simpa using hc) i u hu;rw[show d+(j+1)=d+1+j by omega];exact this
  obtain ⟨css,e1,e2,e3,e4⟩:=key xs 0 (fun j x hx=>by rw[Nat.zero_add];exact hcell j x hx);refine ⟨css,e1,e2,e3,fun _=>⟨g,o,ha,hg,hS,fun t u ht=>?_⟩⟩;obtain ⟨j,i,cs,rfl,hcj,hi⟩:=zy1 hk css e2 t u ht;have:=e4 j cs hcj i u hi;rw[Nat.zero_add] at this;rw[<- Nat.add_assoc];exact this
 ·obtain rfl:xs=[]:=List.length_eq_zero_iff.1 (by omega);exact ⟨[],rfl,(fun _ h=>by cases h),(fun _ _ _ h=>by cases h),(fun h=>absurd h (by simp))⟩
theorem OutG.app {ys:List α} {css css2:List (List Value)} {g cap:Nat} (hR:ReadK R) (h1:css.length=xs.length) (h2:∀ cs∈css,cs.length=k) (h4:∀ (j:Nat) (cs:List Value) (x:α),css[j]? = some cs->xs[j]? = some x->R (fun g=>A g/\v.ownBlock≠some g) w cs x)
  (k1:css2.length=ys.length) (k2:∀ cs∈css2,cs.length=k) (k4:∀ (j:Nat) (cs:List Value) (x:α),css2[j]? = some cs->ys[j]? = some x->R (fun g=>A g/\v.ownBlock≠some g) w cs x)
  (ho:w'.ownsRow base e k (.slice (some ⟨g,0,none⟩) (xs.length+ys.length) cap) (xs.length+ys.length) (css.flatten ++ css2.flatten)) (hg:w.grownBy w' v.ownBlock) (hat:v.ownBlock=some g\/g=w.heap.size):OutG R k A base e w' (.slice (some ⟨g,0,none⟩) (xs.length+ys.length) cap) (xs ++ ys):=by
 have hst:∀ cs x,R (fun g=>A g/\v.ownBlock≠some g) w cs x->R (fun g'=>A g'/\(Value.slice (some ⟨g,0,none⟩) (xs.length+ys.length) cap).ownBlock≠some g') w' cs x:=fun cs x hx =>
  hR.sam hx (Sam.only (Only.grown hg) (fun g' _ hs q=>hs.2 q.symm)) (fun g' hlt hs=>⟨hs.1,fun q=>by
   have e1:g=g':=(by simpa [Value.ownBlock] using q);rcases hat with q2|q2
   ·exact hs.2 (by rw[q2,e1])
   ·omega⟩)
 refine ⟨css ++ css2,by simp [h1,k1],fun cs hcs=>(List.mem_append.1 hcs).elim (h2 cs) (k2 cs),?_,fun j cs x hc hx=>?_⟩
 ·rw[List.flatten_append,List.length_append];exact ho
 ·rcases Nat.lt_or_ge j xs.length with q|q
  ·rw[List.getElem?_append_left (by omega)] at hc hx;exact hst cs x (h4 j cs x hc hx)
  ·rw[List.getElem?_append_right (by omega)] at hc hx;rw[h1] at hc;exact hst cs x (k4 _ cs x hc hx)
theorem zaQ {P:Program} (hR:ReadK R) {ops:Array Oper} {rest:List Oper} {o:Oper} {a:Act} {Q:Exit->Act->World->Prop} (hgd:o.guard=none) (s x:Operand) (t:TypeId)
  (ho:o.op=.call { callee:=.builtin .append,args:=#[s,x],argTypes:=#[t,t] })
  (i:TypeInfo) (z:Value) (bytes:Nat) (ht:P.underlying t=some (.slice e)) (hi:P.info? e=some i) (hz:i.zero=some z) (hsize:i.size=k) (hby:i.bytes=bytes) (hzs:z.cells.size=k) (hsz:0<k)
  (hs:a.eval s=v) (hown:OutG R k A base e w v xs) (g0:Nat) (cs:List Value) (y:α) (hx:a.eval x=.slice (some ⟨g0,0,none⟩) 1 1) (hb:∀ j u,cs[j]? = some u->w.cell? ⟨g0,j,none⟩=some u) (hcl:cs.length=k)
  (hy:R (fun g=>A g/\v.ownBlock≠some g) w cs y) (h63:xs.length+1<=maxLen) (hbytes:(xs.length+1) * bytes<=140737488355328) (hbase:base<=w.heap.size) (H:Nat) (hH:w.heap.size=H)
  (h:∀ g cap w',OutG R k A base e w' (.slice (some ⟨g,0,none⟩) (xs.length+1) cap) (xs ++ [y])->w.grownBy w' v.ownBlock->(v.ownBlock=some g\/g=H)->g<w'.heap.size->wpList P ops Q rest (a.put o.dst (.slice (some ⟨g,0,none⟩) (xs.length+1) cap)) w'):wpList P ops Q (o :: rest) a w:=by
 obtain ⟨css,h1,h2,ho2,h4⟩:=hown;refine wpList_append_lies w hgd s x t ho base e i z k bytes ht hi hz hsize hby hzs hsz v xs.length css.flatten hs ho2 ⟨g0,0,none⟩ 1 1 cs hx (by rw[hcl,Nat.one_mul]) (fun j u hu=>by rw[zeI,Nat.zero_add];exact hb j u hu) (hR.one hy) (by omega) h63 hbytes hbase H hH ?_;intro g cap w' q1 q2 q3 q4;refine h g cap w' ?_ q2 q3 q4;subst hH;exact OutG.app (ys:=[y]) (css2:=[cs]) hR h1 h2 h4 rfl (fun c hc=>by simp at hc;subst hc;exact hcl) (fun j c u hc hu=>by
  cases j with
  | zero=>cases hc;cases hu;exact hy
  | succ j=>simp at hc) (by simpa using q1) q2 q3
end
theorem InlW.one {S:Nat->Prop} {L:World->Value->List Inl->Prop} (hL:∀ w v xs,L w v xs->v.oneCell'=true) {w:World} {cs:List Value} {x:Inl} (h:InlW S L w cs x):∀ u∈cs,u.oneCell'=true:=by
 obtain ⟨vC,vP,vA,vT,vK,rfl,⟨⟨_,_,rfl,_⟩,_⟩,⟨⟨_,_,rfl,_⟩,_⟩,⟨⟨_,_,rfl,_⟩,_⟩,⟨_,_,rfl,_⟩,kk⟩:=h;have:=hL _ _ _ kk;intro u hu;unfold zEk at hu;simp only[List.mem_cons,List.not_mem_nil,or_false] at hu;rcases hu with rfl|rfl|rfl|rfl|rfl|rfl|rfl|rfl|rfl|rfl <;> first|rfl|exact this
theorem Lns.one {S:Nat->Prop} {n:Nat} {w:World} {v:Value} {xs:List Inl} (h:Lns S n w v xs):v.oneCell'=true:=by
 obtain ⟨a,c,rfl,_⟩:=h.form;rfl
theorem Bls.one {S:Nat->Prop} {m n:Nat} {w:World} {v:Value} {xs:List Blo} (h:Bls S m n w v xs):v.oneCell'=true:=by
 obtain ⟨a,c,rfl,_⟩:=h.form;rfl
theorem BloW.one {S:Nat->Prop} {m:Nat} {L:World->Value->List Blo->Prop} (hL:∀ w v xs,L w v xs->v.oneCell'=true) {w:World} {cs:List Value} {x:Blo} (h:BloW S m L w cs x):∀ u∈cs,u.oneCell'=true:=by
 obtain ⟨vC,vP,vL,vK,rfl,⟨⟨_,_,rfl,_⟩,_⟩,⟨⟨_,_,rfl,_⟩,_⟩,l,kk⟩:=h;have h1:=l.one;have h2:=hL _ _ _ kk;intro u hu;unfold zFf at hu;simp only[List.mem_cons,List.not_mem_nil,or_false] at hu;rcases hu with rfl|rfl|rfl|rfl|rfl|rfl|rfl|rfl|rfl|rfl|rfl <;> first|rfl|exact h1|exact h2
def InlK (n:Nat) (S:Nat->Prop) (w:World):List Value->Inl->Prop:=InlW S (Lns S n) w
def BloK (m n:Nat) (S:Nat->Prop) (w:World):List Value->Blo->Prop:=BloW S m (Bls S m n) w
theorem zgI (n:Nat):ReadK (InlK n):=⟨fun h k hS=>InlW.sam h k hS (fun _ h=>Lns.sam h k hS),fun h=>InlW.one (fun _ _ _ h=>Lns.one h) h⟩
theorem zAO (m n:Nat):ReadK (BloK m n):=⟨fun h k hS=>BloW.sam h k hS (fun _ h=>Bls.sam h k hS),fun h=>BloW.one (fun _ _ _ h=>Bls.one h) h⟩
def StrK (S:Nat->Prop) (w:World) (cs:List Value) (x:Bs):Prop:=cs=[.string (bs x)]
theorem zfJ:ReadK StrK:=⟨fun h _ _=>h,fun h u hu=>by rw[h] at hu;simp at hu;subst hu;rfl⟩
end Go.Proofs.YtmcoomlkbgiboaaGreatDoor
namespace Go.Proofs.YtmcoomlkbgiboaaGreatDoor
open Go.Sort
section
variable {α:Type} (cf:α->α->Int)
def zBw (x:α):List α->List α
 | []=>[x]
 | y :: ys=>if 0<cf y x then y :: zBw x ys else x :: y :: ys
def zt4 (out:List α) (x:α):List α:=(zBw cf x out.reverse).reverse
def zkD (l:List α):List α:=l.foldl (zt4 cf) []
structure PreO:Prop where
 anti:∀ x y,cf x y<0↔0<cf y x
 trans:∀ x y z,cf x y<=0->cf y z<=0->cf x z<=0
variable {cf}
theorem zq1 (x:α):∀ l:List α,(zBw cf x l).Perm (x :: l)
 | []=>.refl _
 | y :: ys=>by
  show (if 0<cf y x then y :: zBw cf x ys else x :: y :: ys).Perm _
  split
  ·exact ((zq1 x ys).cons y).trans (List.Perm.swap x y ys)
  ·exact .refl _
theorem zy2 (out:List α) (x:α):(zt4 cf out x).Perm (x :: out):=by
 unfold zt4;exact (List.reverse_perm _).trans ((zq1 x _).trans ((List.reverse_perm out).cons x))
theorem znQ (l:List α):(zkD cf l).Perm l:=by
 have key:∀ (l out:List α),(l.foldl (zt4 cf) out).Perm (out ++ l):=by
  intro l
  induction l with
  | nil=>intro out;simp
  | cons x l ih =>
   intro out;refine (ih _).trans ?_;refine ((zy2 out x).append_right l).trans ?_;have h:=(List.perm_middle (a:=x) (l₁:=out) (l₂:=l)).symm;exact h
 exact key l []
theorem zq2 (l:List α):(zkD cf l).length=l.length:=(znQ l).length_eq
theorem zvU (l:List α) (x:α):zkD cf (l ++ [x])=zt4 cf (zkD cf l) x:=by unfold zkD;rw[List.foldl_append];rfl
def ltS (cf:α->α->Int) (x y:α):Bool:=decide (cf x y<0)
variable [Inhabited α]
theorem zoY {d:Array α} {i:Nat} {x:α} (h:d.toList[i]? = some x):d[i]! = x:=by
 rw[Array.getElem?_toList] at h;rw[getElem!_def,h]
theorem zDv (d:Array α) (out:List α) (y x:α) (rest:List α) (h:d.toList=out ++ y :: x :: rest):(swp d (out.length+1) out.length).toList=out ++ x :: y :: rest:=by
 have hy:d[out.length]! = y:=zoY (by rw[h];simp);have hx:d[out.length+1]! = x:=zoY (by rw[h];simp);unfold swp;rw[Array.toList_setIfInBounds,Array.toList_setIfInBounds,hy,hx,h];simp
theorem zq3 (h:∀ x y,cf x y<0↔0<cf y x):∀ (n:Nat) (d:Array α) (out:List α) (x:α) (rest:List α),out.length=n->d.toList=out ++ x :: rest->(insInner (ltS cf) 0 n d).toList=zt4 cf out x ++ rest:=by
 intro n
 induction n with
 | zero =>
  intro d out x rest hn hd;obtain rfl:=List.length_eq_zero_iff.1 hn;rw[insInner_stop _ _ _ _ (.inl (Nat.le_refl _)),hd];rfl
 | succ n ih =>
  intro d out x rest hn hd;obtain ⟨o,y,rfl⟩:∃ o y,out=o ++ [y]:=⟨out.dropLast,out.getLast (by intro q;subst q;cases hn),(List.dropLast_concat_getLast _).symm⟩;have hl:o.length=n:=(by simpa using hn);have hd':d.toList=o ++ y :: x :: rest:=(by rw[hd];simp);have hy:d[n]! = y:=zoY (by rw[hd',<- hl];simp);have hx:d[n+1]! = x:=zoY (by rw[hd',<- hl];simp);have e:zt4 cf (o ++ [y]) x=if 0<cf y x then zt4 cf o x ++ [y] else o ++ [y] ++ [x]:=by
   unfold zt4;rw[List.reverse_append];show ((if 0<cf y x then y :: zBw cf x o.reverse else x :: y :: o.reverse)).reverse=_
   split <;> simp
  by_cases q:0<cf y x
  ·rw[insInner_go _ _ _ _ (by omega) (by rw[hx,show n+1 - 1=n from rfl,hy];exact decide_eq_true ((h x y).2 q)),show n+1 - 1=n from rfl];have hs:=zDv d o y x rest hd';rw[hl] at hs;rw[ih _ o x (y :: rest) hl hs,e,if_pos q];simp
  ·rw[insInner_stop _ _ _ _ (.inr (by rw[hx,show n+1 - 1=n from rfl,hy];exact decide_eq_false (fun r=>q ((h x y).1 r)))),e,if_neg q,hd];simp
theorem zq4 (h:∀ x y,cf x y<0↔0<cf y x) (b:Nat):∀ (n i:Nat) (d:Array α) (done rest:List α),b - i=n->i<=b->done.length=i->rest.length=b - i->d.toList=zkD cf done ++ rest->(insOuter (ltS cf) 0 b i d).toList=zkD cf (done ++ rest):=by
 intro n
 induction n with
 | zero =>
  intro i d done rest hn hi hl hr hd;obtain rfl:=List.length_eq_zero_iff.1 (show rest.length=0 by omega);rw[insOuter_stop _ _ _ _ _ (by omega),hd];simp
 | succ n ih =>
  intro i d done rest hn hi hl hr hd;cases rest with
  | nil=>simp at hr;omega
  | cons x rest =>
   rw[insOuter_go _ _ _ _ _ (by omega)];have h1:=zq3 h i d (zkD cf done) x rest (by rw[zq2,hl]) hd;rw[<- zvU] at h1;have h2:=ih (i+1) (insInner (ltS cf) 0 i d) (done ++ [x]) rest (by omega) (by omega) (by simp [hl]) (by simp at hr;omega) h1;rw[h2];simp
theorem zoZ (h:∀ x y,cf x y<0↔0<cf y x) (l:List α):(insertionSort (ltS cf) l.toArray 0 l.length).toList=zkD cf l:=by
 unfold insertionSort;cases l with
 | nil=>rw[insOuter_stop _ _ _ _ _ (by simp)];rfl
 | cons x l =>
  have:=zq4 h (x :: l).length l.length 1 (x :: l).toArray [x] l (by simp) (by simp) rfl (by simp) rfl;exact this
end
end Go.Proofs.YtmcoomlkbgiboaaGreatDoor
namespace Go.Proofs.YtmcoomlkbgiboaaGreatDoor
section
variable {α:Type}
def zEy:List (α->α->Int)->α->α->Int
 | [],_,_=>0
 | f :: fs,x,y=>if f x y≠0 then f x y else zEy fs x y
theorem PreO.zero {f:α->α->Int} (h:PreO f) (x y:α):f x y=0↔f y x=0:=by
 have h1:=h.anti x y;have h2:=h.anti y x;constructor <;> intro q <;> omega
theorem PreO.lt {f:α->α->Int} (h:PreO f) {x y z:α} (h1:f x y<=0) (h2:f y z<0):f x z<0:=by
 have h3:=h.trans x y z h1 (by omega);rcases Int.lt_or_eq_of_le h3 with q|q
 ·exact q
 ·have h4:=h.trans z x y (by rw[(h.zero x z).1 q];exact Int.le_refl _) h1;have h5:=(h.anti y z).1 h2;omega
theorem PreO.lt' {f:α->α->Int} (h:PreO f) {x y z:α} (h1:f x y<0) (h2:f y z<=0):f x z<0:=by
 have h3:=h.trans x y z (by omega) h2;rcases Int.lt_or_eq_of_le h3 with q|q
 ·exact q
 ·have h4:=h.trans y z x h2 (by rw[(h.zero x z).1 q];exact Int.le_refl _);have h5:=(h.anti x y).1 h1;omega
theorem zt5:∀ (fs:List (α->α->Int)),(∀ f∈fs,PreO f)->PreO (zEy fs)
 | [],_=>⟨fun x y=>by show (0:Int)<0↔(0:Int)<0;exact Iff.rfl,fun x y z _ _=>Int.le_refl _⟩
 | f :: fs,h=>by
  have hf:=h f (List.mem_cons_self ..);have ih:=zt5 fs (fun g hg=>h g (List.mem_cons_of_mem _ hg));have e:∀ x y,zEy (f :: fs) x y=if f x y≠0 then f x y else zEy fs x y:=fun _ _=>rfl;refine ⟨fun x y=>?_,fun x y z h1 h2=>?_⟩
  ·rw[e,e];by_cases q:f x y=0
   ·have q2:=(hf.zero x y).1 q;rw[if_neg (by omega),if_neg (by omega)];exact ih.anti x y
   ·have q2:f y x≠0:=fun r=>q ((hf.zero x y).2 r);rw[if_pos q,if_pos q2];exact hf.anti x y
  ·rw[e] at h1 h2 ⊢;by_cases q1:f x y=0
   ·rw[if_neg (by omega)] at h1;by_cases q2:f y z=0
    ·rw[if_neg (by omega)] at h2;have q3:f x z=0:=by
      have a1:=hf.trans x y z (by omega) (by omega);have a2:=hf.trans z y x (by rw[(hf.zero y z).1 q2];exact Int.le_refl _) (by rw[(hf.zero x y).1 q1];exact Int.le_refl _);have a3:=hf.anti x z;have a4:=hf.anti z x;omega
     rw[if_neg (by omega)];exact ih.trans x y z h1 h2
    ·rw[if_pos q2] at h2;have:=hf.lt (x:=x) (y:=y) (z:=z) (by omega) (by omega);rw[if_pos (by omega)];omega
   ·rw[if_pos q1] at h1;have q2:f y z<=0:=by
     by_cases q2:f y z=0
     ·omega
     ·rw[if_pos q2] at h2;exact h2
    have:=hf.lt' (x:=x) (y:=y) (z:=z) (by omega) q2;rw[if_pos (by omega)];omega
def zEl (a b:Int):Int:=if a<b then -1 else if b<a then 1 else 0
theorem zBx (f:α->Int):PreO (fun x y=>zEl (f x) (f y)):=by
 refine ⟨fun x y=>?_,fun x y z h1 h2=>?_⟩
 ·unfold zEl
  split <;> split <;> (try split) <;> omega
 ·unfold zEl at *
  split at h1 <;> split at h2 <;> (try split at h1) <;> (try split at h2) <;> split <;> (try split) <;> omega
end
end Go.Proofs.YtmcoomlkbgiboaaGreatDoor
namespace Go.Proofs.YtmcoomlkbgiboaaGreatDoor
open Go.RowKit
theorem zlT:∀ x:List Int,zf4 x x=0
 | []=>rfl
 | a :: x=>by rw[zf4,if_neg (by omega),if_neg (by omega),zlT x]
theorem ziN:∀ x y:List Int,zf4 y x = - zf4 x y
 | [],[]=>rfl
 | [],b :: y=>rfl
 | a :: x,[]=>rfl
 | a :: x,b :: y=>by
  rw[zf4,zf4];by_cases h:a<b
  ·rw[if_neg (show ¬ b<a by omega),if_pos h,if_pos h];rfl
  ·by_cases h2:b<a
   ·rw[if_pos h2,if_neg h,if_pos h2]
   ·rw[if_neg h2,if_neg h,if_neg h,if_neg h2,ziN x y]
theorem zgJ:∀ x y:List Int,zf4 x y=0->x=y
 | [],[],_=>rfl
 | [],b :: y,h=>by cases h
 | a :: x,[],h=>by cases h
 | a :: x,b :: y,h=>by
  rw[zf4] at h
  split at h
  ·cases h
  split at h
  ·cases h
  ·rw[zgJ x y h,show a=b from by omega]
theorem zg1:∀ x y z:List Int,zf4 x y<=0->zf4 y z<=0->zf4 x z<=0
 | [],_,[],_,_=>by simp [zf4]
 | [],_,c :: z,_,_=>by simp [zf4]
 | a :: x,[],_,h,_=>by simp [zf4] at h
 | a :: x,b :: y,[],_,h=>by simp [zf4] at h
 | a :: x,b :: y,c :: z,h1,h2=>by
  rw[zf4] at h1 h2 ⊢;by_cases p1:a<b
  ·by_cases p2:b<c
   ·rw[if_pos (by omega)];omega
   ·rw[if_neg p2] at h2;by_cases p3:c<b
    ·rw[if_pos p3] at h2;omega
    ·rw[if_pos (by omega)];omega
  ·rw[if_neg p1] at h1;by_cases p4:b<a
   ·rw[if_pos p4] at h1;omega
   ·rw[if_neg p4] at h1;by_cases p2:b<c
    ·rw[if_pos (by omega)];omega
    ·rw[if_neg p2] at h2;by_cases p3:c<b
     ·rw[if_pos p3] at h2;omega
     ·rw[if_neg p3] at h2;rw[if_neg (by omega),if_neg (by omega)];exact zg1 x y z h1 h2
theorem zq5:∀ a b:Bs,(a.map fun x=>(x.toNat:Int))=(b.map fun x=>(x.toNat:Int))->a=b
 | [],[],_=>rfl
 | [],b :: y,h=>by cases h
 | a :: x,[],h=>by cases h
 | a :: x,b :: y,h=>by
  simp only[List.map_cons,List.cons.injEq] at h;rw[zq5 x y h.2,UInt8.toNat_inj.1 (Int.ofNat.inj h.1)]
theorem zy3 (c:ColT) (a:Bs):zm0 c a a=0:=by unfold zm0 zCU;rw[zlT,if_neg (by simp),zlT]
theorem zt6 (c:ColT) (a b:Bs):zm0 c b a = - zm0 c a b:=by
 unfold zm0 zCU;rw[ziN (zgG c a) (zgG c b),ziN (a.map fun x=>(x.toNat:Int)) (b.map fun x=>(x.toNat:Int))];by_cases h:zf4 (zgG c a) (zgG c b)=0
 ·rw[if_neg (by omega),if_neg (by omega)]
 ·rw[if_pos (by omega),if_pos (by omega)]
theorem zy4 (c:ColT) (a b:Bs):zm0 c a b=0↔a=b:=by
 constructor
 ·intro h;unfold zm0 at h
  split at h
  ·rename_i q;exact absurd h q
  ·exact zq5 a b (zgJ _ _ h)
 ·rintro rfl;exact zy3 c a
theorem znR (c:ColT) (a b d:Bs) (h1:zm0 c a b<=0) (h2:zm0 c b d<=0):zm0 c a d<=0:=by
 unfold zm0 at h1 h2 ⊢;have t1:=zg1 (zgG c a) (zgG c b) (zgG c d);have t2:=zg1 (a.map fun x=>(x.toNat:Int)) (b.map fun x=>(x.toNat:Int)) (d.map fun x=>(x.toNat:Int));by_cases k1:zf4 (zgG c a) (zgG c b)=0
 ·rw[if_neg (by simpa using k1)] at h1;have e1:=zgJ _ _ k1;rw[e1];by_cases k2:zf4 (zgG c b) (zgG c d)=0
  ·rw[if_neg (by simpa using k2)] at h2 ⊢;exact t2 h1 h2
  ·rw[if_pos k2] at h2 ⊢;exact h2
 ·rw[if_pos k1] at h1;by_cases k2:zf4 (zgG c b) (zgG c d)=0
  ·have e2:=zgJ _ _ k2;rw[<- e2,if_pos k1];exact h1
  ·rw[if_pos k2] at h2;have h3:=t1 h1 h2;by_cases k3:zf4 (zgG c a) (zgG c d)=0
   ·exfalso;have e3:=zgJ _ _ k3;rw[e3] at h1;have:=ziN (zgG c b) (zgG c d);omega
   ·rw[if_pos k3];exact h3
theorem zDw (x y:List Int) (k:Nat) (hx:k<x.length) (hy:k<y.length):zf4 (x.drop k) (y.drop k)=if x[k]<y[k] then -1 else if y[k]<x[k] then 1 else zf4 (x.drop (k+1)) (y.drop (k+1)):=by
 rw[List.drop_eq_getElem_cons hx,List.drop_eq_getElem_cons hy,zf4]
theorem zBy (x y:List Int) (k:Nat) (hk:k<=x.length) (hk2:k<=y.length) (h:¬ (k<x.length/\k<y.length)):zf4 (x.drop k) (y.drop k)=if x.length<y.length then -1 else if y.length<x.length then 1 else 0:=by
 by_cases h1:k<x.length
 ·have h2:y.length=k:=(by omega);rw[List.drop_of_length_le (l:=y) (by omega),List.drop_eq_getElem_cons h1,if_neg (by omega),if_pos (by omega)];rfl
 ·rw[List.drop_of_length_le (l:=x) (by omega)];by_cases h2:k<y.length
  ·rw[List.drop_eq_getElem_cons h2,if_pos (by omega)];rfl
  ·rw[List.drop_of_length_le (l:=y) (by omega),if_neg (by omega),if_neg (by omega)];rfl
end Go.Proofs.YtmcoomlkbgiboaaGreatDoor
