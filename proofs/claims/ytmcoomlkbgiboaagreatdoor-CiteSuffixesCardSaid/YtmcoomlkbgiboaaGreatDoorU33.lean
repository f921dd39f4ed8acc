/- Suffixes that tell citations apart, in plain Lean. Conditions: each text has a hole. -/
import Derived.Test.YtmcoomlkbgiboaaGreatDoorU32
import Derived.Test.YtmcoomlkbgiboaaGreatDoorU14
import Derived.Test.YtmcoomlkbgiboaaGreatDoorU06
import Derived.Test.YtmcoomlkbgiboaaGreatDoorU18
import Derived.Test.YtmcoomlkbgiboaaGreatDoorU15
import Derived.Test.YtmcoomlkbgiboaaGreatDoorU19
import Derived.Test.YtmcoomlkbgiboaaGreatDoorU22
set_option linter.all false
set_option maxRecDepth 100000
set_option maxHeartbeats 12800000
namespace Go.Proofs.YtmcoomlkbgiboaaGreatDoor
open Go.RowKit
abbrev CitX:=Bs × Tok
def zeC (x:CitX) (n:Nat):Bs:=if n=0 then x.1 else zeU (zcY n) x.2
theorem zg2 {x:CitX} {n:Nat} (h:0<n):zeC x n=zeU (zcY n) x.2:=if_neg (by omega)
theorem zB9 {x:CitX} (hx:none∈x.2) {m n:Nat} (hm:0<m) (hn:0<n) (h:zeC x m=zeC x n):m=n:=by
 rw[zg2 hm,zg2 hn] at h;exact zB6 (zDS hx h)
def zo9 (taken:List Bs) (x:CitX):Nat->Nat->Nat
 | 0,n=>n+1
 | f+1,n=>if taken.contains (zeC x (n+1))=true then zo9 taken x f (n+1) else n+1
theorem zpA {x:CitX} (hx:none∈x.2):∀ (m:Nat) (taken:List Bs) (a:Nat),0<a->(∀ j,j<m->zeC x (a+j)∈taken)->m<=taken.length
 | 0,_,_,_,_=>Nat.zero_le _
 | m+1,taken,a,ha,h=>by
  have hm:=h m (Nat.lt_succ_self m);have h1:=zpA hx m (taken.filter fun t=>t != zeC x (a+m)) a ha (fun j hj=>by
   refine List.mem_filter.2 ⟨h j (by omega),?_⟩;rw[bne_iff_ne];intro e;have:=zB9 hx (by omega) (by omega) e;omega)
  have h2:(taken.filter fun t=>t != zeC x (a+m)).length<taken.length:=by
   refine Nat.lt_of_le_of_ne (List.length_filter_le _ _) (fun e=>?_);have:=List.length_filter_eq_length_iff.1 e _ hm;simp at this
  omega
theorem zrQ {x:CitX} (hx:none∈x.2) (taken:List Bs):∀ (f n a:Nat),0<a->a<=n+1->(∀ j,a<=j->j<=n->zeC x j∈taken)->taken.length<=f+(n+1 - a) ->
  n<zo9 taken x f n/\zeC x (zo9 taken x f n) ∉ taken/\∀ j,a<=j->j<zo9 taken x f n->zeC x j∈taken
 | 0,n,a,ha,han,hall,hf=>by
  show n<n+1/\zeC x (n+1) ∉ taken/\∀ j,a<=j->j<n+1->zeC x j∈taken;refine ⟨by omega,fun q=>?_,fun j h1 h2=>hall j h1 (by omega)⟩;have:=zpA hx (n+2 - a) taken a ha (fun j hj=>by
   by_cases e:a+j=n+1
   ·rw[e];exact q
   ·exact hall _ (by omega) (by omega))
  omega
 | f+1,n,a,ha,han,hall,hf=>by
  show n<(if taken.contains (zeC x (n+1))=true then zo9 taken x f (n+1) else n+1)/\zeC x (if taken.contains (zeC x (n+1))=true then zo9 taken x f (n+1) else n+1) ∉ taken/\∀ j,a<=j->j<(if taken.contains (zeC x (n+1))=true then zo9 taken x f (n+1) else n+1)->zeC x j∈taken;by_cases q:taken.contains (zeC x (n+1))=true
  ·rw[if_pos q];have hm:zeC x (n+1)∈taken:=(by simpa using q);obtain ⟨h1,h2,h3⟩:=zrQ hx taken f (n+1) a ha (by omega) (fun j k1 k2=>by
    by_cases e:j=n+1
    ·rw[e];exact hm
    ·exact hall j k1 (by omega)) (by omega)
   exact ⟨by omega,h2,h3⟩
  ·rw[if_neg q];exact ⟨by omega,by simpa using q,fun j h1 h2=>hall j h1 (by omega)⟩
def zbE (ps:List Bs) (t:Bs):Bool:=ps.count t == 1
def zjJ (x:CitX):Bs × Bs:=(zeC x 1,zeC x 2)
theorem ziT:zcY 1=[97]:=by unfold zcY;rw[zd9 (by omega)];rw[show (1 - 1) / 26=0 from rfl,zc9];rfl
theorem zpB:zcY 2=[98]:=by unfold zcY;rw[zd9 (by omega)];rw[show (2 - 1) / 26=0 from rfl,zc9];rfl
theorem zDT {x y:CitX} (h:zjJ x=zjJ y):x.2=y.2:=by
 have h1:=congrArg Prod.fst h;have h2:=congrArg Prod.snd h;simp only[zjJ,zg2 (show 0<1 by omega),zg2 (show 0<2 by omega),ziT,zpB] at h1 h2;exact zs3 (by decide) _ _ h1 h2
structure SufS where
 taken:List Bs
 next:Bs × Bs->Nat
 out:List Nat
def zd1 (ps:List Bs) (st:SufS) (x:CitX):SufS :=
 if zbE ps x.1=true then { st with out:=st.out ++ [0] }
 else ⟨st.taken ++ [zeC x (zo9 st.taken x st.taken.length (st.next (zjJ x)))],fun k=>if k=zjJ x then zo9 st.taken x st.taken.length (st.next (zjJ x)) else st.next k,st.out ++ [zo9 st.taken x st.taken.length (st.next (zjJ x))]⟩
def zFv (ps:List Bs):SufS:=⟨ps.filter (zbE ps),fun _=>0,[]⟩
def zbX (ps:List Bs) (xs:List CitX):SufS:=xs.foldl (zd1 ps) (zFv ps)
def zCa (xs:List CitX):List Nat:=(zbX (xs.map (·.1)) xs).out
theorem zfU (ps:List Bs) (xs:List CitX) (x:CitX):zbX ps (xs ++ [x])=zd1 ps (zbX ps xs) x:=by unfold zbX;rw[List.foldl_append];rfl
def zpC (xs:List CitX) (out:List Nat):List Bs:=List.zipWith zeC xs out
structure SufI (ps:List Bs) (done:List CitX) (st:SufS):Prop where
 len:st.out.length=done.length
 tk:∀ t,t∈st.taken↔(t∈ps/\zbE ps t=true)\/t∈zpC done st.out
 nx:∀ (x:CitX) (n:Nat),none∈x.2->0<n->n<=st.next (zjJ x)->zeC x n∈st.taken
 ne:∀ (i:Nat) (x:CitX),done[i]? = some x->zbE ps x.1=true->st.out[i]? = some 0
 nd:(zpC done st.out).Nodup
 al:∀ (i:Nat) (x:CitX) (n:Nat),done[i]? = some x->st.out[i]? = some n->zbE ps (zeC x n)=true->zeC x n∈ps->n=0/\zbE ps x.1=true
 tl:st.taken.length<=(ps.filter (zbE ps)).length+done.length
theorem zl6 {done:List CitX} {out:List Nat} (h:out.length=done.length) (x:CitX) (n:Nat):zpC (done ++ [x]) (out ++ [n])=zpC done out ++ [zeC x n]:=by
 unfold zpC;rw[List.zipWith_append h.symm];rfl
theorem zCb {done:List CitX} {out:List Nat} {t:Bs} (h:t∈zpC done out):∃ (i:Nat) (x:CitX) (n:Nat),done[i]? = some x/\out[i]? = some n/\zeC x n=t:=by
 obtain ⟨i,hi⟩:=List.getElem?_of_mem h;unfold zpC at hi;rw[List.getElem?_zipWith] at hi;cases h1:done[i]? with
 | none=>rw[h1] at hi;simp at hi
 | some x =>
  cases h2:out[i]? with
  | none=>rw[h1,h2] at hi;simp at hi
  | some n=>rw[h1,h2] at hi;exact ⟨i,x,n,h1,h2,by simpa using hi⟩
theorem zv6 {done rest:List CitX} {x y:CitX} {j:Nat} (hy:done[j]? = some y) (h:zbE ((done ++ x :: rest).map (·.1)) x.1=true):y.1≠x.1:=by
 intro e;unfold zbE at h;rw[List.map_append,List.map_cons,List.count_append,List.count_cons_self,beq_iff_eq] at h;have:0<(done.map (·.1)).count x.1:=List.count_pos_iff.2 (List.mem_map.2 ⟨y,List.mem_of_getElem? hy,e⟩);omega
theorem SufI.zero (ps:List Bs):SufI ps [] (zFv ps):=by
 refine ⟨rfl,fun t=>?_,fun x n _ h1 h2=>?_,fun i x h=>by simp at h,List.nodup_nil,fun i x n h=>by simp at h,Nat.le_refl _⟩
 ·show t∈ps.filter (zbE ps)↔_\/t∈[];rw[List.mem_filter];simp
 ·have h2':n<=0:=h2;omega
theorem SufI.old {ps:List Bs} {done:List CitX} {st:SufS} (h:SufI ps done st) {x:CitX} (hx:none∈x.2):st.next (zjJ x)<zo9 st.taken x st.taken.length (st.next (zjJ x))/\zeC x (zo9 st.taken x st.taken.length (st.next (zjJ x))) ∉ st.taken/\∀ j,1<=j->j<zo9 st.taken x st.taken.length (st.next (zjJ x))->zeC x j∈st.taken :=
 zrQ hx st.taken st.taken.length (st.next (zjJ x)) 1 (by omega) (by omega) (fun j h1 h2=>h.nx x j hx (by omega) h2) (by omega)
theorem zrR {done rest:List CitX} {st:SufS} {x:CitX} (h:SufI ((done ++ x :: rest).map (·.1)) done st) (ha:zbE ((done ++ x :: rest).map (·.1)) x.1=true):x.1 ∉ zpC done st.out:=by
 intro q;obtain ⟨i,y,n,h1,h2,h3⟩:=zCb q;obtain ⟨rfl,-⟩:=h.al i y n h1 h2 (by rw[h3];exact ha) (by rw[h3];simp);exact zv6 h1 ha h3
theorem SufI.step {done rest:List CitX} {st:SufS} {x:CitX} (h:SufI ((done ++ x :: rest).map (·.1)) done st) (hx:none∈x.2):SufI ((done ++ x :: rest).map (·.1)) (done ++ [x]) (zd1 ((done ++ x :: rest).map (·.1)) st x):=by
 obtain ⟨ps,HP⟩:∃ ps,(done ++ x :: rest).map (·.1)=ps:=⟨_,rfl⟩;have hmem:x.1∈ps:=(by rw[<- HP];simp);unfold zd1;by_cases ha:zbE ps x.1=true
 ·have hnew:x.1 ∉ zpC done st.out:=(by rw[<- HP] at ha;exact zrR h ha);rw[HP] at h ⊢;rw[if_pos ha];have e:=zl6 h.len x 0;have e0:zeC x 0=x.1:=rfl;rw[e0] at e;refine ⟨by simp [h.len],fun t=>?_,h.nx,fun i y hy hya=>?_,?_,fun i y n hy hn ht htp=>?_,by have:=h.tl;simp;omega⟩
  ·show t∈st.taken↔_\/t∈zpC (done ++ [x]) (st.out ++ [0]);rw[e,h.tk t,List.mem_append,List.mem_singleton];constructor
   ·rintro (q|q)
    ·exact .inl q
    ·exact .inr (.inl q)
   ·rintro (q|q|rfl)
    ·exact .inl q
    ·exact .inr q
    ·exact .inl ⟨hmem,ha⟩
  ·show (st.out ++ [0])[i]? = some 0;rcases Nat.lt_or_ge i done.length with q|q
   ·rw[List.getElem?_append_left q] at hy;rw[List.getElem?_append_left (by rw[h.len];exact q)];exact h.ne i y hy hya
   ·have hi:i=done.length:=(by have:=(List.getElem?_eq_some_iff.1 hy).1;simp at this;omega);subst hi;rw[<- h.len];simp
  ·show (zpC (done ++ [x]) (st.out ++ [0])).Nodup;rw[e,List.nodup_append];exact ⟨h.nd,by simp,fun a ha' b hb=>by rw[List.mem_singleton.1 hb];exact fun q=>hnew (q ▸ ha')⟩
  ·have hn':(st.out ++ [0])[i]? = some n:=hn;rcases Nat.lt_or_ge i done.length with q|q
   ·rw[List.getElem?_append_left q] at hy;rw[List.getElem?_append_left (by rw[h.len];exact q)] at hn';exact h.al i y n hy hn' ht htp
   ·have hi:i=done.length:=(by have:=(List.getElem?_eq_some_iff.1 hy).1;simp at this;omega);subst hi;have hy':x=y:=(by simpa using hy);subst hy';rw[<- h.len] at hn';have hn2:0=n:=(by simpa using hn');exact ⟨hn2.symm,ha⟩
 ·rw[HP] at h ⊢;rw[if_neg ha];obtain ⟨r1,r2,r3⟩:=h.old hx;generalize zo9 st.taken x st.taken.length (st.next (zjJ x))=r at *;have e:=zl6 h.len x r;refine ⟨by simp [h.len],fun t=>?_,fun y n hy h1 h2=>?_,fun i y hy hya=>?_,?_,fun i y n hy hn ht htp=>?_,by have:=h.tl;simp;omega⟩
  ·show t∈st.taken ++ [zeC x r]↔_\/t∈zpC (done ++ [x]) (st.out ++ [r]);rw[e,List.mem_append,List.mem_append,List.mem_singleton,h.tk t];constructor
   ·rintro ((q|q)|q)
    ·exact .inl q
    ·exact .inr (.inl q)
    ·exact .inr (.inr q)
   ·rintro (q|q|q)
    ·exact .inl (.inl q)
    ·exact .inl (.inr q)
    ·exact .inr q
  ·show zeC y n∈st.taken ++ [zeC x r];have h2':n<=if zjJ y=zjJ x then r else st.next (zjJ y):=h2;by_cases q:zjJ y=zjJ x
   ·rw[if_pos q] at h2';have ec:zeC y n=zeC x n:=(by rw[zg2 h1,zg2 h1,zDT q]);rw[ec];rcases Nat.lt_or_ge n r with k|k
    ·exact List.mem_append.2 (.inl (r3 n h1 k))
    ·rw[show n=r by omega];simp
   ·rw[if_neg q] at h2';exact List.mem_append.2 (.inl (h.nx y n hy h1 h2'))
  ·show (st.out ++ [r])[i]? = some 0;rcases Nat.lt_or_ge i done.length with q|q
   ·rw[List.getElem?_append_left q] at hy;rw[List.getElem?_append_left (by rw[h.len];exact q)];exact h.ne i y hy hya
   ·have hi:i=done.length:=(by have:=(List.getElem?_eq_some_iff.1 hy).1;simp at this;omega);subst hi;have hy':x=y:=(by simpa using hy);subst hy';exact absurd hya ha
  ·show (zpC (done ++ [x]) (st.out ++ [r])).Nodup;rw[e,List.nodup_append];exact ⟨h.nd,by simp,fun a ha' b hb=>by rw[List.mem_singleton.1 hb];exact fun q=>r2 ((h.tk _).2 (.inr (q ▸ ha')))⟩
  ·have hn':(st.out ++ [r])[i]? = some n:=hn;rcases Nat.lt_or_ge i done.length with q|q
   ·rw[List.getElem?_append_left q] at hy;rw[List.getElem?_append_left (by rw[h.len];exact q)] at hn';exact h.al i y n hy hn' ht htp
   ·have hi:i=done.length:=(by have:=(List.getElem?_eq_some_iff.1 hy).1;simp at this;omega);subst hi;have hy':x=y:=(by simpa using hy);subst hy';rw[<- h.len] at hn';have hn2:r=n:=(by simpa using hn');subst hn2;exact absurd ((h.tk _).2 (.inl ⟨htp,ht⟩)) r2
theorem zpD (xs:List CitX) (hx:∀ x∈xs,none∈x.2):∀ (done rest:List CitX),done ++ rest=xs->SufI (xs.map (·.1)) done (zbX (xs.map (·.1)) done):=by
 have key:∀ (n:Nat) (done rest:List CitX),done.length=n->done ++ rest=xs->SufI (xs.map (·.1)) done (zbX (xs.map (·.1)) done):=by
  intro n
  induction n with
  | zero =>
   intro done rest h1 _;obtain rfl:=List.length_eq_zero_iff.1 h1;exact .zero _
  | succ n ih =>
   intro done rest h1 h2;obtain ⟨o,y,rfl⟩:∃ o y,done=o ++ [y]:=⟨done.dropLast,done.getLast (by intro q;subst q;cases h1),(List.dropLast_concat_getLast _).symm⟩;have h3:o ++ y :: rest=xs:=(by rw[<- h2];simp);have h4:=ih o (y :: rest) (by simpa using h1) h3;rw[zfU];subst h3;exact h4.step (hx y (by simp))
 intro done rest h;exact key _ done rest rfl h
theorem zCc (xs:List CitX) (hx:∀ x∈xs,none∈x.2):(zCa xs).length=xs.length:=(zpD xs hx xs [] (by simp)).len
def zm4 (ps taken:List Bs) (i:Nat) (t:Bs):Prop:=t ∉ taken/\∀ k p,ps[k]? = some p->k≠i->p≠t\/1<ps.count t
theorem zv7 {done rest:List CitX} {st:SufS} {x:CitX} (h:SufI ((done ++ x :: rest).map (·.1)) done st) (ha:zbE ((done ++ x :: rest).map (·.1)) x.1=true):zm4 ((done ++ x :: rest).map (·.1)) (zpC done st.out) done.length x.1:=by
 refine ⟨zrR h ha,fun k p hp hk=>.inl fun e=>?_⟩;unfold zbE at ha;rw[beq_iff_eq,List.map_append,List.map_cons,List.count_append,List.count_cons_self] at ha;rw[List.map_append,List.map_cons] at hp;rcases Nat.lt_or_ge k done.length with q|q
 ·rw[List.getElem?_append_left (by simpa using q)] at hp;have:0<(done.map (·.1)).count x.1:=List.count_pos_iff.2 (e ▸ List.mem_of_getElem? hp);omega
 ·rw[List.getElem?_append_right (by simpa using q)] at hp;obtain ⟨m,hm⟩:∃ m,k - (done.map (·.1)).length=m+1:=⟨k - done.length - 1,by simp;omega⟩;rw[hm,List.getElem?_cons_succ] at hp;have:0<(rest.map (·.1)).count x.1:=List.count_pos_iff.2 (e ▸ List.mem_of_getElem? hp);omega
theorem zuE {done rest:List CitX} {st:SufS} {x:CitX} (h:SufI ((done ++ x :: rest).map (·.1)) done st) (ha:¬ zbE ((done ++ x :: rest).map (·.1)) x.1=true) (t:Bs):zm4 ((done ++ x :: rest).map (·.1)) (zpC done st.out) done.length t↔t ∉ st.taken:=by
 have hpi:((done ++ x :: rest).map (·.1))[done.length]? = some x.1:=(by simp);generalize (done ++ x :: rest).map (·.1)=ps at *;constructor
 ·rintro ⟨h1,h2⟩ q;rcases (h.tk t).1 q with ⟨q1,q2⟩|q
  ·obtain ⟨k,hk⟩:=List.getElem?_of_mem q1;have hki:k≠done.length:=by
    rintro rfl;rw[hk] at hpi;cases hpi;exact ha q2
   rcases h2 k t hk hki with r|r
   ·exact r rfl
   ·unfold zbE at q2;rw[beq_iff_eq] at q2;omega
  ·exact h1 q
 ·intro q;refine ⟨fun r=>q ((h.tk t).2 (.inr r)),fun k p hp hk=>?_⟩;by_cases e:p=t
  ·subst e;right;have h1:=List.count_pos_iff.2 (List.mem_of_getElem? hp);have h2:ps.count p≠1:=fun e=>q ((h.tk p).2 (.inl ⟨List.mem_of_getElem? hp,by unfold zbE;rw[e];rfl⟩));omega
  ·exact .inl e
theorem zz7 {done rest:List CitX} {st:SufS} {x:CitX} (h:SufI ((done ++ x :: rest).map (·.1)) done st) (hx:none∈x.2) (ha:¬ zbE ((done ++ x :: rest).map (·.1)) x.1=true) :
  ∃ r,(zd1 ((done ++ x :: rest).map (·.1)) st x).out=st.out ++ [r]/\0<r/\r<=2 * (done ++ x :: rest).length+1/\zm4 ((done ++ x :: rest).map (·.1)) (zpC done st.out) done.length (zeC x r)/\∀ j,0<j->j<r->¬ zm4 ((done ++ x :: rest).map (·.1)) (zpC done st.out) done.length (zeC x j):=by
 obtain ⟨r1,r2,r3⟩:=h.old hx;refine ⟨zo9 st.taken x st.taken.length (st.next (zjJ x)),by unfold zd1;rw[if_neg ha],by omega,?_,(zuE h ha _).2 r2,fun j h1 h2 q=>(zuE h ha _).1 q (r3 j h1 h2)⟩;have h1:=zpA hx (zo9 st.taken x st.taken.length (st.next (zjJ x)) - 1) st.taken 1 (by omega) (fun j hj=>r3 (1+j) (by omega) (by omega));have h2:=h.tl;have h3:=List.length_filter_le (zbE ((done ++ x :: rest).map (·.1))) ((done ++ x :: rest).map (·.1));rw[List.length_map] at h3;have h4:done.length<=(done ++ x :: rest).length:=(by simp);omega
theorem zDU {l:Bs} {k:Nat} (hk:k<l.length) (h:l[k]=10):lnB l=false:=by
 unfold lnB;have:l.contains 10=true:=by
  rw[List.contains_iff_mem,<- h];exact List.getElem_mem hk
 rw[this];simp
theorem zEC {l:Bs} (h:∀ k (hk:k<l.length),l[k]≠10):lnB l=zbQ (bs l):=by
 unfold lnB;have:l.contains 10=false:=by
  rw[Bool.eq_false_iff];intro q;rw[List.contains_iff_mem] at q;obtain ⟨k,hk,e⟩:=List.getElem_of_mem q;exact h k hk e
 rw[this];simp
theorem zfV (l:Bs) (w:World) (hl:l.length<=1100000):Calls Tryz.prog 57 #[.string (bs l)] w fun e w'=>e=.returned (.bool (lnB l))/\Kept w w':=by
 have HV:=Hd (fun w=>zu5 (bs l) w (by simp;omega));have HF:Hid (∀ k (hk:k<l.length),l[k]=10->lnB l=false):=fun k hk h=>zDU hk h;have HT:Hid ((∀ k (hk:k<l.length),l[k]≠10)->lnB l=zbQ (bs l)):=fun h=>zEC h;generalize lnB l=R at *;generalize zbQ (bs l)=V at *;go_enter Tryz.func57,Tryz.ntmps57;go_wp2_with fail
 go_loop [3] (fun i=>∃ k:Nat,k<=l.length/\i=.int .i64 k/\Hid (∀ j (hj:j<l.length),j<k->l[j]≠10)) (fun i=>l.length - (intOf i).toNat)
 case atStart=>exact ⟨0,Nat.zero_le _,rfl,fun j hj h=>by omega⟩
 case round =>
  obtain ⟨k,hk,rfl,HN⟩:=hrel;by_cases hlt:k<l.length
  ·have i0:=zd3 (P:=Tryz.prog) (t:=9) Tryz.underlying9 l k hlt k rfl;have HD:Hid (at8 l k=10↔l[k]=10):=(by show _↔_;rw[zbI l k hlt];exact zgB _ 10 (by decide));by_cases h1:at8 l k=10
   ·have HR:=Hd (HF.out k hlt (HD.out.1 h1));have hb':(at8 l k == 10)=true:=(by simpa using h1);generalize at8 l k=b at *;clear h1 HD;go_wp2_with fail;go_ret;exact ⟨zaO HR.out.symm,Kept.refl _⟩
   ·have HS:Hid (∀ j (hj:j<l.length),j<k+1->l[j]≠10):=by
     intro j hj hjk;rcases Nat.lt_or_ge j k with q|q
     ·exact HN.out j hj q
     ·obtain rfl:j=k:=(by omega);exact fun q=>h1 (HD.out.2 q)
    have hb':(at8 l k == 10)=false:=(by simpa using h1);generalize at8 l k=b at *;clear h1 HD HN;go_wp2_with fail
    go_round
    case rel=>exact ⟨k+1,by omega,by go_num,HS.out⟩
    case measure=>simp [intOf];omega
  ·obtain rfl:k=l.length:=(by omega);have HR:=Hd (HT.out (fun k hk=>HN.out k hk hk));go_wp2_with fail;refine (HV.out _).mono ?_;rintro e w1 ⟨rfl,hk1⟩;have HK1:=Hd hk1;clear hk1;go_wp2_with fail;go_ret;exact ⟨zaO HR.out.symm,HK1.out⟩
theorem zkW (b:Int) (w:World) (h0:0<=b) (h1:b<256):Calls Tryz.prog 108 #[.int .u8 b] w fun e w'=>e=.returned (.bool (decide (97<=b) && decide (b<=122)))/\w=w':=by
 obtain ⟨R,HR⟩:∃ R,Hid ((decide (97<=b) && decide (b<=122))=R):=⟨_,rfl⟩;rw[HR.out];by_cases q1:97<=b
 ·by_cases q2:b<=122
  ·have HV:Hid (true=R):=(by show _=_;rw[<- HR.out,decide_eq_true q1,decide_eq_true q2];rfl);clear HR;go_enter Tryz.func108,Tryz.ntmps108;go_wp2_with fail;go_ret;exact ⟨zaO HV.out,rfl⟩
  ·have HV:Hid (false=R):=(by show _=_;rw[<- HR.out,decide_eq_true q1,decide_eq_false q2];rfl);clear HR;go_enter Tryz.func108,Tryz.ntmps108;go_wp2_with fail;go_ret;exact ⟨zaO HV.out,rfl⟩
 ·have HV:Hid (false=R):=(by show _=_;rw[<- HR.out,decide_eq_false q1];rfl);clear HR;go_enter Tryz.func108,Tryz.ntmps108;go_wp2_with fail;go_ret;exact ⟨zaO HV.out,rfl⟩
def rpC (ps:List Rp):List Value:=ps.flatMap fun q=>[.string (bs q.txt),.string (bs q.fld),.int .i64 (q.grp:Int)]
theorem zCd (ps:List Rp) (q:Rp):rpC (ps ++ [q])=rpC ps ++ [.string (bs q.txt),.string (bs q.fld),.int .i64 (q.grp:Int)]:=by simp [rpC]
theorem zED (ps:List Rp) (j:Nat) (q:Rp) (h:ps[j]? = some q):(rpC ps)[j * 3]? = some (.string (bs q.txt))/\(rpC ps)[j * 3+1]? = some (.string (bs q.fld))/\(rpC ps)[j * 3+2]? = some (.int .i64 (q.grp:Int)):=by
 induction ps generalizing j with
 | nil=>cases h
 | cons p ps ih =>
  have e:rpC (p :: ps)=[.string (bs p.txt),.string (bs p.fld),.int .i64 (p.grp:Int)] ++ rpC ps:=(by simp [rpC]);rw[e];cases j with
  | zero =>
   simp at h;subst h;exact ⟨rfl,rfl,rfl⟩
  | succ j =>
   obtain ⟨h0,h1,h2⟩:=ih j (by simpa using h);rw[List.getElem?_append_right (by simp;omega),List.getElem?_append_right (by simp;omega),List.getElem?_append_right (by simp;omega)];simp only[List.length_cons,List.length_nil];rw[show (j+1) * 3 - (0+1+1+1)=j * 3 by omega,show (j+1) * 3+1 - (0+1+1+1)=j * 3+1 by omega,show (j+1) * 3+2 - (0+1+1+1)=j * 3+2 by omega];exact ⟨h0,h1,h2⟩
def Rps (w:World) (v:Value) (ps:List Rp):Prop :=
 ∃ a c,v=.slice a ps.length c/\ps.length<=c/\(0<ps.length->∃ g o,a=some ⟨g,o,none⟩/\g<w.heap.size/\∀ j q,ps[j]? = some q ->
  w.cell? ⟨g,o+j * 3,none⟩=some (.string (bs q.txt))/\w.cell? ⟨g,o+j * 3+1,none⟩=some (.string (bs q.fld))/\w.cell? ⟨g,o+j * 3+2,none⟩=some (.int .i64 (q.grp:Int)))
theorem Rps.kept {w w':World} {v:Value} {ps:List Rp} (h:Rps w v ps) (k:Kept w w'):Rps w' v ps:=by
 obtain ⟨a,c,hv,hc,h3⟩:=h;refine ⟨a,c,hv,hc,fun q=>?_⟩;obtain ⟨g,o,ha,hg,hcell⟩:=h3 q;refine ⟨g,o,ha,Nat.lt_of_lt_of_le hg k.size,fun j x hx=>?_⟩;obtain ⟨c0,c1,c2⟩:=hcell j x hx;exact ⟨(k.cell (p:=⟨g,o+j * 3,none⟩) hg).trans c0,(k.cell (p:=⟨g,o+j * 3+1,none⟩) hg).trans c1,(k.cell (p:=⟨g,o+j * 3+2,none⟩) hg).trans c2⟩
theorem Rps.own {w:World} {base:Nat} {e:TypeId} {v:Value} {ps:List Rp} (h:w.ownsRow base e 3 v ps.length (rpC ps)):Rps w v ps:=by
 obtain ⟨a,c,hv,hc,_,h3⟩:=za1 h;refine ⟨a,c,hv,hc,fun q=>?_⟩;obtain ⟨g,ha,_,hg,hcell⟩:=h3 q;refine ⟨g,0,ha,hg,fun j x hx=>?_⟩;obtain ⟨c0,c1,c2⟩:=zED ps j x hx;simp only[Nat.zero_add];exact ⟨hcell _ _ c0,hcell _ _ c1,hcell _ _ c2⟩
theorem Rps.form {w:World} {v:Value} {ps:List Rp} (h:Rps w v ps):∃ a c,v=.slice a ps.length c/\ps.length<=c:=by
 obtain ⟨a,c,hv,hc,_⟩:=h;exact ⟨a,c,hv,hc⟩
theorem Rps.cell_of {w:World} {a:Option Addr} {n c:Nat} {ps:List Rp} (h:Rps w (.slice a n c) ps) (k:Nat) (q:Rp) (hx:ps[k]? = some q) :
  ∃ g o,a=some ⟨g,o,none⟩/\g<w.heap.size/\w.cell? ⟨g,o+k * 3,none⟩=some (.string (bs q.txt))/\w.cell? ⟨g,o+k * 3+1,none⟩=some (.string (bs q.fld))/\w.cell? ⟨g,o+k * 3+2,none⟩=some (.int .i64 (q.grp:Int)):=by
 obtain ⟨a',c',hv,hc,h3⟩:=h;obtain ⟨rfl,rfl,rfl⟩:=Value.slice.inj hv;obtain ⟨hk,_⟩:=List.getElem?_eq_some_iff.1 hx;obtain ⟨g,o,ha,hg,hcell⟩:=h3 (by omega);obtain ⟨c0,c1,c2⟩:=hcell k q hx;exact ⟨g,o,ha,hg,c0,c1,c2⟩
theorem Tryz.infoRp:(Tryz.prog.info? 205).map (fun i=>(i.zero,i.size,i.bytes))=some (some (.agg #[.string ⟨#[]⟩,.string ⟨#[]⟩,.int .i64 0]),3,40):=by kernel_rfl
theorem zcT (w:World) {ops:Array Oper} {rest:List Oper} {o:Oper} {a:Act} {Q:Exit->Act->World->Prop} (hgd:o.guard=none) (s x:Operand)
  (ho:o.op=.call { callee:=.builtin .append,args:=#[s,x],argTypes:=#[167,167] })
  (base:Nat) (v:Value) (ps:List Rp) (hs:a.eval s=v) (hown:w.ownsRow base 205 3 v ps.length (rpC ps)) (q:Rp) (g:Nat) (hx:a.eval x=.slice (some ⟨g,0,none⟩) 1 1)
  (hb:Blk w g 205 #[.string (bs q.txt),.string (bs q.fld),.int .i64 (q.grp:Int)]) (hl:ps.length<=1000000) (hbase:base<=w.heap.size)
  (h:∀ v' w',w'.ownsRow base 205 3 v' (ps ++ [q]).length (rpC (ps ++ [q]))->w.grownBy w' v.ownBlock->wpList Tryz.prog ops Q rest (a.put o.dst v') w') :
  wpList Tryz.prog ops Q (o :: rest) a w:=by
 obtain ⟨i0,hi,hz0,hz1,hz2⟩:=info_parts Tryz.infoRp;refine wpList_append_lies w hgd s x 167 ho base 205 i0 (.agg #[.string ⟨#[]⟩,.string ⟨#[]⟩,.int .i64 0]) 3 40 Tryz.underlying167 hi hz0 hz1 hz2 rfl (by decide) v ps.length (rpC ps) hs hown ⟨g,0,none⟩ 1 1 [.string (bs q.txt),.string (bs q.fld),.int .i64 (q.grp:Int)] hx rfl (fun j u hu=>?_) (fun u hu=>?_) (by decide) (by unfold maxLen;omega) (by omega) hbase w.heap.size rfl (fun g' cap w' h1 h2 _ _=>h _ w' ?_ h2)
 ·rw[zoM,Nat.zero_add]
  match j with
  | 0=>cases hu;exact hb.cell 0 _ rfl
  | 1=>cases hu;exact hb.cell 1 _ rfl
  | 2=>cases hu;exact hb.cell 2 _ rfl
  | j+3=>simp at hu
 ·simp at hu;rcases hu with rfl|rfl|rfl <;> rfl
 ·rw[zCd,List.length_append];exact h1
def zs4 (l:Bs):Nat:=(l.takeWhile zd7).length
theorem zl7 {r:Bs} {j:Nat} (h:∀ i (hi:i<r.length),i<j->zd7 r[i]=true) (hj:j<=r.length) (hn:∀ (hi:j<r.length),zd7 r[j]=false):zs4 r=j:=by
 induction r generalizing j with
 | nil=>simp at hj;subst hj;rfl
 | cons b r ih =>
  cases j with
  | zero =>
   have:=hn (by simp);simp only[List.getElem_cons_zero] at this;unfold zs4;rw[List.takeWhile_cons,this];rfl
  | succ j =>
   have h0:=h 0 (by simp) (by omega);simp only[List.getElem_cons_zero] at h0;have:=ih (j:=j) (fun i hi hij=>by have:=h (i+1) (by simp;omega) (by omega);simpa using this) (by simpa using hj) (fun hi=>by have:=hn (by simp;omega);simpa using this);unfold zs4 at this ⊢;rw[List.takeWhile_cons,h0,if_pos rfl,List.length_cons,this]
theorem zl8 {c:UInt8} {r:Bs} {j:Nat} (h:∀ i (hi:i<r.length),i<j->r[i]≠c) (hj:j<r.length) (he:r[j]=c):zaP c r=j:=by
 rcases Nat.lt_trichotomy (zaP c r) j with q|q|q
 ·exact absurd (zlA c r (by omega)) (h _ (by omega) q)
 ·exact q
 ·exact absurd he (zsB c r j q hj)
theorem zl9 {b:UInt8} (h:zd7 b=true):b≠125:=by
 rintro rfl;exact absurd h (by decide)
theorem zCe (r:Bs):(zaP 125 r<r.length/\za7 (r.take (zaP 125 r)) 20 []=true)↔(1<=zs4 r/\zs4 r<=20/\∃ h:zs4 r<r.length,r[zs4 r]=125):=by
 have hall:∀ i (hi:i<r.length),i<zs4 r->zd7 r[i]=true:=by
  intro i hi hl;unfold zs4 at hl;have h1:(r.takeWhile zd7)[i]'hl∈r.takeWhile zd7:=List.getElem_mem hl;have h2:=List.all_eq_true.1 (List.all_takeWhile (p:=zd7) (l:=r)) _ h1;have h3:(r.takeWhile zd7)[i]'hl=r[i]:=List.IsPrefix.getElem (List.takeWhile_prefix _) hl
  rwa [h3] at h2
 constructor
 ·rintro ⟨h1,h2⟩;have h3:=zlA 125 r h1;unfold za7 at h2;rw[Bool.and_eq_true,Bool.and_eq_true,decide_eq_true_eq,decide_eq_true_eq,List.all_eq_true,List.length_take] at h2;obtain ⟨a1,a2,a3⟩:=h2;have hlow:∀ i (hi:i<r.length),i<zaP 125 r->zd7 r[i]=true:=fun i hi hb=>by
   have:=a3 r[i] (List.mem_take_iff_getElem.2 ⟨i,by omega,rfl⟩);simpa using this
  have e:zs4 r=zaP 125 r:=zl7 hlow (by omega) (fun hi=>by rw[h3];decide);rw[e];exact ⟨by omega,by omega,h1,h3⟩
 ·rintro ⟨h1,h2,h3,h4⟩;have e:zaP 125 r=zs4 r:=zl8 (fun i hi hl=>zl9 (hall i hi hl)) h3 h4;rw[e];refine ⟨h3,?_⟩;unfold za7;rw[Bool.and_eq_true,Bool.and_eq_true,decide_eq_true_eq,decide_eq_true_eq,List.all_eq_true,List.length_take];refine ⟨by omega,by omega,fun b hb=>?_⟩;obtain ⟨i,hi,e⟩:=List.mem_take_iff_getElem.1 hb;rw[<- e,hall i (by omega) (by omega)];rfl
def PartsP (S:Option (List Rp)) (w:World) (e:Ending) (w':World):Prop:=∃ v,e=.returned (.tuple #[v,.bool S.isSome])/\v.oneCell'=true/\(∀ l,S=some l->Rps w' v l)/\Kept w w'
theorem zpE (ps:List Rp) (q:Rp) (o:Option (List Rp)):(o.map fun l=>q :: l).map (ps ++ ·)=o.map ((ps ++ [q]) ++ ·):=by
 cases o <;> simp
theorem zjK (t:Bs) (w:World) (ht:t.length<=100000):Calls Tryz.prog 111 #[.string (bs t)] w (PartsP (zlP t) w):=by
 have H5:Hid (zlP t=none->∀ w',Kept w w'->PartsP (zlP t) w (.returned (.tuple #[.slice none 0 0,.bool false])) w'):=fun h w' k=>by
  rw[h];exact ⟨_,rfl,rfl,(fun l q=>by cases q),k⟩
 have H6:Hid (zlP t=none->∀ v w',v.oneCell'=true->Kept w w'->PartsP (zlP t) w (.returned (.tuple #[v,.bool false])) w'):=fun h v w' hv k=>by
  rw[h];exact ⟨_,rfl,hv,(fun l q=>by cases q),k⟩
 have HOK:Hid (∀ l,zlP t=some l->∀ w' v,Rps w' v l->Kept w w'->PartsP (zlP t) w (.returned (.tuple #[v,.bool true])) w'):=fun l h w' v hp k=>by
  rw[h];refine ⟨v,rfl,?_,(fun l' q=>by cases q;exact hp),k⟩;obtain ⟨a,c,rfl,_⟩:=hp.form;rfl
 have H0:Hid (zlP t=(zkA (t.length+1) (t.drop 0) 0 0).map (([]:List Rp) ++ ·)):=by
  show _=_;rw[zsS,List.drop_zero];cases zkA (t.length+1) t 0 0 <;> simp
 generalize hP:PartsP (zlP t) w=P at *;generalize zlP t=S at *;clear hP;go_enter Tryz.func111,Tryz.ntmps111;go_wp2_with fail;go_loopw [4,5,6,7] (fun ov gv hv iv wr=>∃ (f:Nat) (ps:List Rp) (G g i:Nat),gv=.int .i64 G/\hv=.bool (!(g == 0))/\iv=.int .i64 i/\Hid (wr.ownsRow w.heap.size 205 3 ov ps.length (rpC ps))/\i<=t.length/\t.length - i<f/\ps.length<=i/\G<=i/\(g=0\/g=G)/\Hid (S=(zkA f (t.drop i) G g).map (ps ++ ·))/\Hid (Kept w wr)) (fun _ _ _ iv _=>t.length - (intOf iv).toNat)
 case atStart=>exact ⟨t.length+1,[],0,0,0,rfl,rfl,rfl,World.ownsRow_nil _ _ _ _,by omega,by omega,by simp,by omega,.inl rfl,H0.out,Kept.refl _⟩
 case round =>
  obtain ⟨f,ps,G,g,i,rfl,rfl,rfl,HOWN,hi,hf,hps,hG,hgG,HSP,HKR⟩:=hrel;obtain ⟨f,rfl⟩:∃ f',f=f'+1:=⟨f - 1,by omega⟩;have hsz:w.heap.size<=wr.heap.size:=HKR.out.size;by_cases hlt:i<t.length
  ·have i0:=zd3 (P:=Tryz.prog) (t:=9) Tryz.underlying9 t i hlt i rfl;have i1:=zn8 (P:=Tryz.prog) (t:=9) Tryz.underlying9 t i (i+1) (by omega) (by omega) i ((i:Int)+1) rfl (by omega) _ (zC9 t i hlt);have HDR:Hid (t.drop i=t[i] :: t.drop (i+1)):=List.drop_eq_getElem_cons hlt;have h8:=zbI t i hlt;rw[HDR.out] at HSP;generalize t[i]=b at HSP h8 i1;rw[h8] at i0;clear HDR h8;cases hin:zbN zcA b with
   | false =>
    rw[zoN _ _ _ hin,zpE] at HSP;have hne:∀ n:Nat,n<256->zbN zcA (UInt8.ofNat n)=true->((b.toNat:Int) == (n:Int))=false:=fun n hn hs=>by
     rw[beq_eq_false_iff_ne];intro q;have:=(zgB b n hn).1 q;rw[this,hs] at hin;cases hin
    have b1:((b.toNat:Int) == 123)=false:=hne 123 (by decide) (by decide);have b2:((b.toNat:Int) == 125)=false:=hne 125 (by decide) (by decide);have b3:((b.toNat:Int) == 91)=false:=hne 91 (by decide) (by decide);have b4:((b.toNat:Int) == 93)=false:=hne 93 (by decide) (by decide);clear hne hin;by_cases hg0:g=0
    ·subst hg0;have hgb:((0:Nat) == 0)=true:=rfl;rw[hgb];simp only[Bool.not_true];have HBQ:=Hd (Blk.new wr 205 #[.string (bs [b]),.string (bs []),.int .i64 (0:Nat)]);have HOA:=Hd (HOWN.out.alloc (.cells #[.string (bs [b]),.string (bs []),.int .i64 (0:Nat)] 205));have HKA:=Hd (HKR.out.trans (zaA wr (.cells #[.string (bs [b]),.string (bs []),.int .i64 (0:Nat)] 205)));go_wp2_with (at_builtin;refine zcT _ (by rfl) (.tmp 19) (.tmp 27) (by rfl) w.heap.size _ ps (by rfl) HOA.out ⟨[b],[],(0:Nat)⟩ wr.heap.size (by rfl) HBQ.out (by omega) HKA.out.size ?_;intro v5 w5 hown5 hgrow5;rw[List.length_append,List.length_singleton] at hown5;have HO5:=Hd hown5;have HK5:=Hd (HKA.out.trans' (zaG HOA.out hgrow5 HKA.out.size));obtain ⟨a5,c5,rfl,-,-,-⟩:=za1 hown5;clear hown5 hgrow5);go_roundw
     case rel=>exact ⟨f,ps ++ [Rp.mk [b] [] (0:Nat)],G,(0:Nat),i+1,rfl,rfl,by go_num,(by show World.ownsRow _ _ _ _ _ _ _;rw[List.length_append];exact HO5.out),by omega,by omega,by rw[List.length_append,List.length_singleton];omega,by omega,.inl rfl,HSP.out,HK5.out⟩
     case measure=>simp [intOf];omega
    ·have hgb:(g == 0)=false:=(by rw[beq_eq_false_iff_ne];exact hg0);obtain rfl:g=G:=hgG.resolve_left hg0;rw[hgb];simp only[Bool.not_false];have HBQ:=Hd (Blk.new wr 205 #[.string (bs [b]),.string (bs []),.int .i64 g]);have HOA:=Hd (HOWN.out.alloc (.cells #[.string (bs [b]),.string (bs []),.int .i64 g] 205));have HKA:=Hd (HKR.out.trans (zaA wr (.cells #[.string (bs [b]),.string (bs []),.int .i64 g] 205)));go_wp2_with (at_builtin;refine zcT _ (by rfl) (.tmp 19) (.tmp 27) (by rfl) w.heap.size _ ps (by rfl) HOA.out ⟨[b],[],g⟩ wr.heap.size (by rfl) HBQ.out (by omega) HKA.out.size ?_;intro v5 w5 hown5 hgrow5;rw[List.length_append,List.length_singleton] at hown5;have HO5:=Hd hown5;have HK5:=Hd (HKA.out.trans' (zaG HOA.out hgrow5 HKA.out.size));obtain ⟨a5,c5,rfl,-,-,-⟩:=za1 hown5;clear hown5 hgrow5);go_roundw
     case rel=>exact ⟨f,ps ++ [Rp.mk [b] [] g],g,g,i+1,rfl,by rw[hgb];rfl,by go_num,(by show World.ownsRow _ _ _ _ _ _ _;rw[List.length_append];exact HO5.out),by omega,by omega,by rw[List.length_append,List.length_singleton];omega,by omega,.inr rfl,HSP.out,HK5.out⟩
     case measure=>simp [intOf];omega
   | true =>
    have hb:=zcX hin;clear hin;rcases hb with rfl|rfl|rfl|rfl
    · -- a field
     have i0':∀ w,(Instr.index 9 (.string (bs t)) (.int .i64 (i:Int))).run Tryz.prog w=.ok (.int .u8 123) w:=i0;clear i0;rw[zoO] at HSP;have HLEN:Hid ((t.drop (i+1)).length=t.length - (i+1)):=(by show _=_;rw[List.length_drop]);have HAT:Hid (∀ j,j<(t.drop (i+1)).length->at8 t (i+1+j)=at8 (t.drop (i+1)) j):=fun j _=>by
      unfold at8;rw[List.getD_eq_getElem?_getD,List.getD_eq_getElem?_getD,List.getElem?_drop]
     have HFC:=Hd (zCe (t.drop (i+1)));have HSL:Hid (∀ j,j<=(t.drop (i+1)).length->∀ w,(Instr.slice 9 (.string (bs t)) (some (.int .i64 ((i:Int)+1))) (some (.int .i64 ((i+1+j:Nat):Int))) none).run Tryz.prog w=.ok (.string (bs ((t.drop (i+1)).take j))) w):=fun j hj w=>by
      rw[List.length_drop] at hj;exact zn8 (P:=Tryz.prog) (t:=9) Tryz.underlying9 t (i+1) (i+1+j) (by omega) (by omega) ((i:Int)+1) ((i+1+j:Nat):Int) (by omega) rfl _ (by congr 1;omega) w
     have HDD:Hid (∀ j,(t.drop (i+1)).drop (j+1)=t.drop (i+1+j+1)):=fun j=>(by rw[List.drop_drop];congr 1);obtain ⟨r,HR⟩:∃ r,Hid (t.drop (i+1)=r):=⟨_,rfl⟩;rw[HR.out] at HSP HLEN HAT HFC HSL HDD;have hrl:=HLEN.out;clear HLEN HR i1;by_cases hg0:g=0
     ·subst hg0;have hgb:((0:Nat) == 0)=true:=rfl;rw[hgb];simp only[Bool.not_true];go_wp2_with fail;obtain ⟨wo,rfl⟩:∃ wo:World,wo=wr:=⟨_,rfl⟩
      go_loop [9] (fun kv=>∃ j:Nat,j<=r.length/\kv=.int .i64 ((i+1+j:Nat):Int)/\Hid (∀ m (hm:m<r.length),m<j->zd7 r[m]=true)) (fun kv=>t.length - (intOf kv).toNat)
      case atStart=>exact ⟨0,Nat.zero_le _,by go_num,fun m hm h=>by omega⟩
      case round =>
       obtain ⟨j,hj,rfl,HLW⟩:=hrel;obtain ⟨K,HK⟩:∃ K:Int,Hid (((i+1+j:Nat):Int)=K):=⟨_,rfl⟩;have hK0:0<=K:=(by rw[<- HK.out];omega);have hK1:K<=1000000:=(by rw[<- HK.out];omega);by_cases hjl:j<r.length
       ·have i2:=zd3 (P:=Tryz.prog) (t:=9) Tryz.underlying9 t (i+1+j) (by omega) ((i+1+j:Nat):Int) rfl;rw[HAT.out j hjl] at i2;have h80:=zgA r j;have h81:=zpW r j;have HLOW:Hid (zd7 r[j]=(decide (97<=at8 r j) && decide (at8 r j<=122))):=by
         show _=_;rw[zbI r j hjl];rfl
        have HRL:=Hd (fun w=>zkW (at8 r j) w h80 h81);have hjt:K<(t.length:Int):=(by rw[<- HK.out];omega);obtain ⟨lb,HLB⟩:∃ x,Hid (zd7 r[j]=x):=⟨zd7 r[j],rfl⟩;rw[<- HLOW.out,HLB.out] at HRL;cases lb with
        | true =>
         have HNX:Hid (∀ m (hm:m<r.length),m<j+1->zd7 r[m]=true):=fun m hm hmj=>by
          rcases Nat.lt_or_ge m j with q|q
          ·exact HLW.out m hm q
          ·obtain rfl:m=j:=(by omega);exact HLB.out
         clear HLOW HLB HLW;generalize at8 r j=bj at *;rw[HK.out] at i2 ⊢;go_wp2_with fail;refine (HRL.out _).mono ?_;rintro e w2 ⟨rfl,rfl⟩;go_wp2_with fail
         go_round
         case rel=>exact ⟨j+1,by omega,by rw[<- HK.out];go_num,HNX.out⟩
         case measure=>rw[<- HK.out];simp [intOf];omega
        | false =>
         have HN:Hid (zs4 r=j):=zl7 HLW.out (by omega) (fun _=>HLB.out);have HBR:Hid (at8 r j=125↔r[j]=125):=by
          show _↔_;rw[zbI r j hjl];exact zgB _ 125 (by decide)
         rw[HN.out] at HFC;clear HLOW HN;by_cases j0:j=0
         ·have HNC:¬ _:=fun q=>absurd (HFC.out.1 q).1 (by omega);have HS:Hid (S=none):=(by show _=_;rw[HSP.out,if_neg HNC];rfl);clear HSP HNC;have e1:(K == ((i:Int)+1))=true:=(by rw[<- HK.out,j0,beq_iff_eq];omega);generalize at8 r j=bj at *;rw[HK.out] at i2 ⊢;clear j0 HLB HLW HFC HBR;go_wp2_with fail;refine (HRL.out _).mono ?_;rintro e w2 ⟨rfl,rfl⟩;go_wp2_with fail;exact H5.out HS.out _ HKR.out
         have e1:(K == ((i:Int)+1))=false:=(by rw[<- HK.out,beq_eq_false_iff_ne];omega);by_cases j20:20<j
         ·have HNC:¬ _:=fun q=>absurd (HFC.out.1 q).2.1 (by omega);have HS:Hid (S=none):=(by show _=_;rw[HSP.out,if_neg HNC];rfl);clear HSP HNC;have e2:(i:Int)+21<K:=(by rw[<- HK.out];omega);generalize at8 r j=bj at *;rw[HK.out] at i2 ⊢;clear j0 j20 HLB HLW HFC HBR;go_wp2_with fail;refine (HRL.out _).mono ?_;rintro e w2 ⟨rfl,rfl⟩;go_wp2_with fail;exact H5.out HS.out _ HKR.out
         have e2:¬ (i:Int)+21<K:=(by rw[<- HK.out];omega);have e3:(K == (t.length:Int))=false:=(by rw[beq_eq_false_iff_ne];omega);by_cases hbr:at8 r j=125
         ·have HC:=HFC.out.2 ⟨by omega,by omega,hjl,HBR.out.1 hbr⟩;have HB:Hid (zaP 125 r=j):=zl8 (fun m hm h=>zl9 (HLW.out m hm h)) hjl (HBR.out.1 hbr);rw[if_pos HC,zpE,HB.out,HDD.out j] at HSP;have i3:=HSL.out j hj;rw[hbr] at i2 HRL;clear HC HB HBR HLB HLW HFC j0 j20 hbr;generalize at8 r j=bj at *;generalize r.take j=X at *;rw[HK.out] at i2 i3 ⊢;go_wp2_with fail;refine (HRL.out _).mono ?_;rintro e w2 ⟨rfl,rfl⟩;have HBQ:=Hd (Blk.new wo 205 #[.string (bs []),.string (bs X),.int .i64 (0:Nat)]);have HOA:=Hd (HOWN.out.alloc (.cells #[.string (bs []),.string (bs X),.int .i64 (0:Nat)] 205));have HKA:=Hd (HKR.out.trans (zaA wo (.cells #[.string (bs []),.string (bs X),.int .i64 (0:Nat)] 205)));go_wp2_with (at_builtin;refine zcT _ (by rfl) (.tmp 82) (.tmp 90) (by rfl) w.heap.size _ ps (by rfl) HOA.out ⟨[],X,(0:Nat)⟩ wo.heap.size (by rfl) HBQ.out (by omega) HKA.out.size ?_;intro v5 w5 hown5 hgrow5;rw[List.length_append,List.length_singleton] at hown5;have HO5:=Hd hown5;have HK5:=Hd (HKA.out.trans' (zaG HOA.out hgrow5 HKA.out.size));obtain ⟨a5,c5,rfl,-,-,-⟩:=za1 hown5;clear hown5 hgrow5);go_roundw
          case rel=>exact ⟨f,ps ++ [Rp.mk [] X (0:Nat)],G,(0:Nat),i+1+j+1,rfl,rfl,by rw[<- HK.out];go_num,(by show World.ownsRow _ _ _ _ _ _ _;rw[List.length_append];exact HO5.out),by omega,by omega,by rw[List.length_append,List.length_singleton];omega,by omega,.inl rfl,HSP.out,HK5.out⟩
          case measure=>rw[<- HK.out];simp [intOf];omega
         ·have HNC:¬ _:=fun q=>by
           obtain ⟨_,_,h1,h2⟩:=HFC.out.1 q;exact hbr (HBR.out.2 h2)
          have HS:Hid (S=none):=(by show _=_;rw[HSP.out,if_neg HNC];rfl);clear HSP HNC;have e4:(at8 r j == 125)=false:=(by simpa using hbr);have e5:(at8 r j != 125)=true:=(by rw[bne,e4];rfl);clear j0 j20 hbr HLB HLW HFC HBR;generalize at8 r j=bj at *;rw[HK.out] at i2 ⊢;go_wp2_with fail;refine (HRL.out _).mono ?_;rintro e w2 ⟨rfl,rfl⟩;go_wp2_with fail;exact H5.out HS.out _ HKR.out
       ·have HN:Hid (zs4 r=j):=zl7 HLW.out (by omega) (fun h=>absurd h hjl);rw[HN.out] at HFC;have HNC:¬ _:=fun q=>by
         obtain ⟨_,_,h1,_⟩:=HFC.out.1 q;exact hjl h1
        have HS:Hid (S=none):=(by show _=_;rw[HSP.out,if_neg HNC];rfl);clear HSP HNC;have e3:(K == (t.length:Int))=true:=(by rw[<- HK.out,beq_iff_eq];omega);have e0:¬ K<(t.length:Int):=(by rw[<- HK.out];omega);have hjj:j=r.length:=(by omega);clear HFC HLW HN;by_cases j0:j=0
        ·have e1:(K == ((i:Int)+1))=true:=(by rw[<- HK.out,j0,beq_iff_eq];omega);clear j0 hjj;rw[HK.out];go_wp2_with fail;exact H5.out HS.out _ HKR.out
        have e1:(K == ((i:Int)+1))=false:=(by rw[<- HK.out,beq_eq_false_iff_ne];omega);by_cases j20:20<j
        ·have e2:(i:Int)+21<K:=(by rw[<- HK.out];omega);clear j0 hjj j20;rw[HK.out];go_wp2_with fail;exact H5.out HS.out _ HKR.out
        have e2:¬ (i:Int)+21<K:=(by rw[<- HK.out];omega);clear j0 hjj j20;rw[HK.out];go_wp2_with fail;exact H5.out HS.out _ HKR.out
     ·have hgb:(g == 0)=false:=(by rw[beq_eq_false_iff_ne];exact hg0);obtain rfl:g=G:=hgG.resolve_left hg0;rw[hgb];simp only[Bool.not_false];go_wp2_with fail;obtain ⟨wo,rfl⟩:∃ wo:World,wo=wr:=⟨_,rfl⟩
      go_loop [9] (fun kv=>∃ j:Nat,j<=r.length/\kv=.int .i64 ((i+1+j:Nat):Int)/\Hid (∀ m (hm:m<r.length),m<j->zd7 r[m]=true)) (fun kv=>t.length - (intOf kv).toNat)
      case atStart=>exact ⟨0,Nat.zero_le _,by go_num,fun m hm h=>by omega⟩
      case round =>
       obtain ⟨j,hj,rfl,HLW⟩:=hrel;obtain ⟨K,HK⟩:∃ K:Int,Hid (((i+1+j:Nat):Int)=K):=⟨_,rfl⟩;have hK0:0<=K:=(by rw[<- HK.out];omega);have hK1:K<=1000000:=(by rw[<- HK.out];omega);by_cases hjl:j<r.length
       ·have i2:=zd3 (P:=Tryz.prog) (t:=9) Tryz.underlying9 t (i+1+j) (by omega) ((i+1+j:Nat):Int) rfl;rw[HAT.out j hjl] at i2;have h80:=zgA r j;have h81:=zpW r j;have HLOW:Hid (zd7 r[j]=(decide (97<=at8 r j) && decide (at8 r j<=122))):=by
         show _=_;rw[zbI r j hjl];rfl
        have HRL:=Hd (fun w=>zkW (at8 r j) w h80 h81);have hjt:K<(t.length:Int):=(by rw[<- HK.out];omega);obtain ⟨lb,HLB⟩:∃ x,Hid (zd7 r[j]=x):=⟨zd7 r[j],rfl⟩;rw[<- HLOW.out,HLB.out] at HRL;cases lb with
        | true =>
         have HNX:Hid (∀ m (hm:m<r.length),m<j+1->zd7 r[m]=true):=fun m hm hmj=>by
          rcases Nat.lt_or_ge m j with q|q
          ·exact HLW.out m hm q
          ·obtain rfl:m=j:=(by omega);exact HLB.out
         clear HLOW HLB HLW;generalize at8 r j=bj at *;rw[HK.out] at i2 ⊢;go_wp2_with fail;refine (HRL.out _).mono ?_;rintro e w2 ⟨rfl,rfl⟩;go_wp2_with fail
         go_round
         case rel=>exact ⟨j+1,by omega,by rw[<- HK.out];go_num,HNX.out⟩
         case measure=>rw[<- HK.out];simp [intOf];omega
        | false =>
         have HN:Hid (zs4 r=j):=zl7 HLW.out (by omega) (fun _=>HLB.out);have HBR:Hid (at8 r j=125↔r[j]=125):=by
          show _↔_;rw[zbI r j hjl];exact zgB _ 125 (by decide)
         rw[HN.out] at HFC;clear HLOW HN;by_cases j0:j=0
         ·have HNC:¬ _:=fun q=>absurd (HFC.out.1 q).1 (by omega);have HS:Hid (S=none):=(by show _=_;rw[HSP.out,if_neg HNC];rfl);clear HSP HNC;have e1:(K == ((i:Int)+1))=true:=(by rw[<- HK.out,j0,beq_iff_eq];omega);generalize at8 r j=bj at *;rw[HK.out] at i2 ⊢;clear j0 HLB HLW HFC HBR;go_wp2_with fail;refine (HRL.out _).mono ?_;rintro e w2 ⟨rfl,rfl⟩;go_wp2_with fail;exact H5.out HS.out _ HKR.out
         have e1:(K == ((i:Int)+1))=false:=(by rw[<- HK.out,beq_eq_false_iff_ne];omega);by_cases j20:20<j
         ·have HNC:¬ _:=fun q=>absurd (HFC.out.1 q).2.1 (by omega);have HS:Hid (S=none):=(by show _=_;rw[HSP.out,if_neg HNC];rfl);clear HSP HNC;have e2:(i:Int)+21<K:=(by rw[<- HK.out];omega);generalize at8 r j=bj at *;rw[HK.out] at i2 ⊢;clear j0 j20 HLB HLW HFC HBR;go_wp2_with fail;refine (HRL.out _).mono ?_;rintro e w2 ⟨rfl,rfl⟩;go_wp2_with fail;exact H5.out HS.out _ HKR.out
         have e2:¬ (i:Int)+21<K:=(by rw[<- HK.out];omega);have e3:(K == (t.length:Int))=false:=(by rw[beq_eq_false_iff_ne];omega);by_cases hbr:at8 r j=125
         ·have HC:=HFC.out.2 ⟨by omega,by omega,hjl,HBR.out.1 hbr⟩;have HB:Hid (zaP 125 r=j):=zl8 (fun m hm h=>zl9 (HLW.out m hm h)) hjl (HBR.out.1 hbr);rw[if_pos HC,zpE,HB.out,HDD.out j] at HSP;have i3:=HSL.out j hj;rw[hbr] at i2 HRL;clear HC HB HBR HLB HLW HFC j0 j20 hbr;generalize at8 r j=bj at *;generalize r.take j=X at *;rw[HK.out] at i2 i3 ⊢;go_wp2_with fail;refine (HRL.out _).mono ?_;rintro e w2 ⟨rfl,rfl⟩;have HBQ:=Hd (Blk.new wo 205 #[.string (bs []),.string (bs X),.int .i64 g]);have HOA:=Hd (HOWN.out.alloc (.cells #[.string (bs []),.string (bs X),.int .i64 g] 205));have HKA:=Hd (HKR.out.trans (zaA wo (.cells #[.string (bs []),.string (bs X),.int .i64 g] 205)));go_wp2_with (at_builtin;refine zcT _ (by rfl) (.tmp 82) (.tmp 90) (by rfl) w.heap.size _ ps (by rfl) HOA.out ⟨[],X,g⟩ wo.heap.size (by rfl) HBQ.out (by omega) HKA.out.size ?_;intro v5 w5 hown5 hgrow5;rw[List.length_append,List.length_singleton] at hown5;have HO5:=Hd hown5;have HK5:=Hd (HKA.out.trans' (zaG HOA.out hgrow5 HKA.out.size));obtain ⟨a5,c5,rfl,-,-,-⟩:=za1 hown5;clear hown5 hgrow5);go_roundw
          case rel=>exact ⟨f,ps ++ [Rp.mk [] X g],g,g,i+1+j+1,rfl,by rw[hgb];rfl,by rw[<- HK.out];go_num,(by show World.ownsRow _ _ _ _ _ _ _;rw[List.length_append];exact HO5.out),by omega,by omega,by rw[List.length_append,List.length_singleton];omega,by omega,.inr rfl,HSP.out,HK5.out⟩
          case measure=>rw[<- HK.out];simp [intOf];omega
         ·have HNC:¬ _:=fun q=>by
           obtain ⟨_,_,h1,h2⟩:=HFC.out.1 q;exact hbr (HBR.out.2 h2)
          have HS:Hid (S=none):=(by show _=_;rw[HSP.out,if_neg HNC];rfl);clear HSP HNC;have e4:(at8 r j == 125)=false:=(by simpa using hbr);have e5:(at8 r j != 125)=true:=(by rw[bne,e4];rfl);clear j0 j20 hbr HLB HLW HFC HBR;generalize at8 r j=bj at *;rw[HK.out] at i2 ⊢;go_wp2_with fail;refine (HRL.out _).mono ?_;rintro e w2 ⟨rfl,rfl⟩;go_wp2_with fail;exact H5.out HS.out _ HKR.out
       ·have HN:Hid (zs4 r=j):=zl7 HLW.out (by omega) (fun h=>absurd h hjl);rw[HN.out] at HFC;have HNC:¬ _:=fun q=>by
         obtain ⟨_,_,h1,_⟩:=HFC.out.1 q;exact hjl h1
        have HS:Hid (S=none):=(by show _=_;rw[HSP.out,if_neg HNC];rfl);clear HSP HNC;have e3:(K == (t.length:Int))=true:=(by rw[<- HK.out,beq_iff_eq];omega);have e0:¬ K<(t.length:Int):=(by rw[<- HK.out];omega);have hjj:j=r.length:=(by omega);clear HFC HLW HN;by_cases j0:j=0
        ·have e1:(K == ((i:Int)+1))=true:=(by rw[<- HK.out,j0,beq_iff_eq];omega);clear j0 hjj;rw[HK.out];go_wp2_with fail;exact H5.out HS.out _ HKR.out
        have e1:(K == ((i:Int)+1))=false:=(by rw[<- HK.out,beq_eq_false_iff_ne];omega);by_cases j20:20<j
        ·have e2:(i:Int)+21<K:=(by rw[<- HK.out];omega);clear j0 hjj j20;rw[HK.out];go_wp2_with fail;exact H5.out HS.out _ HKR.out
        have e2:¬ (i:Int)+21<K:=(by rw[<- HK.out];omega);clear j0 hjj j20;rw[HK.out];go_wp2_with fail;exact H5.out HS.out _ HKR.out
    · -- a closing brace
     have i0':∀ w,(Instr.index 9 (.string (bs t)) (.int .i64 (i:Int))).run Tryz.prog w=.ok (.int .u8 125) w:=i0;rw[zoP] at HSP;have HS:Hid (S=none):=HSP.out;clear i0;by_cases hg0:g=0
     ·have hgb:(g == 0)=true:=(by rw[hg0];rfl);rw[hgb];go_wp2_with fail;exact H5.out HS.out _ HKR.out
     ·have hgb:(g == 0)=false:=(by rw[beq_eq_false_iff_ne];exact hg0);rw[hgb];go_wp2_with fail;exact H5.out HS.out _ HKR.out
    · -- a group begins
     have i0':∀ w,(Instr.index 9 (.string (bs t)) (.int .i64 (i:Int))).run Tryz.prog w=.ok (.int .u8 91) w:=i0;clear i0;rw[zlN] at HSP;by_cases hg0:g=0
     ·rw[if_pos hg0] at HSP;subst hg0;have hgb:((0:Nat) == 0)=true:=rfl;rw[hgb];go_wp2_with fail;go_roundw
      case rel=>exact ⟨f,ps,G+1,G+1,i+1,by go_num,rfl,by go_num,HOWN.out,by omega,by omega,by omega,by omega,.inr rfl,HSP.out,HKR.out⟩
      case measure=>simp [intOf];omega
     ·rw[if_neg hg0] at HSP;have HS:Hid (S=none):=HSP.out;have hgb:(g == 0)=false:=(by rw[beq_eq_false_iff_ne];exact hg0);rw[hgb];go_wp2_with fail;exact H5.out HS.out _ HKR.out
    · -- a group ends
     have i0':∀ w,(Instr.index 9 (.string (bs t)) (.int .i64 (i:Int))).run Tryz.prog w=.ok (.int .u8 93) w:=i0;clear i0;rw[zlO] at HSP;by_cases hg0:g=0
     ·rw[if_pos hg0] at HSP;have HS:Hid (S=none):=HSP.out;have hgb:(g == 0)=true:=(by rw[hg0];rfl);rw[hgb];go_wp2_with fail;exact H5.out HS.out _ HKR.out
     ·rw[if_neg hg0] at HSP;have hgb:(g == 0)=false:=(by rw[beq_eq_false_iff_ne];exact hg0);rw[hgb];go_wp2_with fail;go_roundw
      case rel=>exact ⟨f,ps,G,0,i+1,rfl,rfl,by go_num,HOWN.out,by omega,by omega,by omega,by omega,.inl rfl,HSP.out,HKR.out⟩
      case measure=>simp [intOf];omega
  ·have HDN:Hid (t.drop i=[]):=(by show _=_;rw[List.drop_eq_nil_iff];omega);rw[HDN.out,zkO] at HSP;by_cases hg0:g=0
   ·rw[if_pos hg0] at HSP;have HS:Hid (S=some ps):=(by show _=_;rw[HSP.out];simp);have HP:=Hd (Rps.own HOWN.out);have hgb:(g == 0)=true:=(by rw[hg0];rfl);rw[hgb];go_wp2_with fail;exact HOK.out ps HS.out _ _ HP.out HKR.out
   ·rw[if_neg hg0] at HSP;have HS:Hid (S=none):=(by show _=_;rw[HSP.out];rfl);have hgb:(g == 0)=false:=(by rw[beq_eq_false_iff_ne];exact hg0);rw[hgb];obtain ⟨a5,c5,rfl,-,-,-⟩:=za1 HOWN.out;go_wp2_with fail;exact H6.out HS.out _ _ rfl HKR.out
theorem zCf (t:Bs):(zlP t).isSome=(zkM t).isSome:=by
 unfold zlP;cases zkM t <;> rfl
theorem zz8 {t:Bs} (h:zcW t=0):zlP t=some (ziY (zeK t)):=by
 unfold zlP;have h1:zeK t=(zkM t).getD []:=(by unfold zeK;rw[if_pos h]);rw[h1];unfold zcW at h
 split at h
 ·cases h
 ·split at h
  ·rename_i q;cases hs:zkM t with
   | none=>rw[hs] at q;cases q
   | some l=>rfl
  ·cases h
theorem zCg {t:Bs} {b c:Bool} (h1:lnB t=b) (h2:(zlP t).isSome=c):zcW t=if b=false then 17 else if c=true then 0 else 5:=by
 subst h1 h2;unfold zcW;rw[zCf]
theorem zeA (t:Bs) (w:World) (ht:t.length<=100000):Calls Tryz.prog 110 #[.string (bs t)] w fun e w'=>e=.returned (.int .i64 (zcW t))/\Kept w w':=by
 have HL:=Hd (fun w=>zfV t w (by omega));have HP:=Hd (fun w=>zjK t w ht);unfold PartsP at HP;obtain ⟨b,HB⟩:∃ b,Hid (lnB t=b):=⟨_,rfl⟩;obtain ⟨c,HC⟩:∃ c,Hid ((zlP t).isSome=c):=⟨_,rfl⟩;have HE:=Hd (zCg HB.out HC.out);rw[HE.out];rw[HB.out] at HL;rw[HC.out] at HP;clear HB HC HE;generalize zlP t=S at *;go_enter Tryz.func110,Tryz.ntmps110;go_wp2_with fail;refine (HL.out _).mono ?_;rintro e w1 ⟨rfl,hk1⟩;have HK1:=Hd hk1;clear hk1;cases b with
 | false =>
  go_wp2_with fail;go_ret;exact ⟨rfl,HK1.out⟩
 | true =>
  go_wp2_with fail;refine (HP.out _).mono ?_;rintro e w2 ⟨v,rfl,hv,-,hk2⟩;have HK2:=Hd (HK1.out.trans hk2);clear hk2;cases c with
  | false =>
   go_wp2_with fail;go_ret;exact ⟨rfl,HK2.out⟩
  | true =>
   go_wp2_with fail;go_ret;exact ⟨rfl,HK2.out⟩
theorem zpF {P:Program} (a b x:Bs) (n m:Nat) (hx:a ++ b=x) (ha:a.length<=n) (hb:b.length<=m) (h:n+m<=9223372036854775807):(∀ w,(Op.stringOp .add (bs a) (bs b)).run P w=.ok (.string (bs x)) w)/\x.length<=n+m:=by
 subst hx;refine ⟨fun w=>?_,by rw[List.length_append];omega⟩;rw[run_string_add_sum w (bs a) (bs b) (by simp only[zeE];omega),zk3]
theorem zmA (n:Nat):Lib.itoa (n:Int)=Lib.decDigits n:=by
 unfold Lib.itoa;rw[if_neg (by omega),Int.toNat_natCast]
def zE5:Bs:=[48,49,50,51,52,53,54,55,56,57]
theorem zDV:∀ k:Fin 10,(zE5.drop k.val).take (k.val+1 - k.val)=[UInt8.ofNat (48+k.val)]:=by decide
theorem zEE (k:Nat) (h:k<10):(zE5.drop k).take (k+1 - k)=[UInt8.ofNat (48+k)]:=zDV ⟨k,h⟩
theorem zv8:∀ (n:Nat) (w:World),n<=9223372036854775807->Calls Tryz.prog 202 #[.int .i64 n] w fun e w'=>e=.returned (.string (bs (Lib.decDigits n)))/\Kept w w':=by
 intro n
 induction n using Nat.strongRecOn with
 | ind n ih =>
 intro w hn;have i1:=zn8 (P:=Tryz.prog) (t:=9) Tryz.underlying9 zE5 (n % 10) (n % 10+1) (by omega) (by show _<=10;omega) ((n % 10:Nat):Int) (((n % 10:Nat):Int)+1) rfl (by omega) _ (zEE (n % 10) (Nat.mod_lt _ (by decide)));unfold zE5 at i1;have r1:Int.tmod (n:Int) 10=((n % 10:Nat):Int):=(Int.ofNat_tmod n 10).symm;have hr:n % 10<10:=Nat.mod_lt _ (by decide);by_cases h10:n<10
 ·have HD:Hid (Lib.decDigits n=[UInt8.ofNat (48+n % 10)]):=(by show _=_;rw[Lib.decDigits_one h10,Nat.mod_eq_of_lt h10]);rw[HD.out];clear ih HD;generalize n % 10=r at *;generalize UInt8.ofNat (48+r)=d at *;go_enter Tryz.func202,Tryz.ntmps202;go_wp2_with fail;go_ret;exact ⟨rfl,Kept.refl _⟩
 ·have HI:=Hd (fun w=>ih (n / 10) (by omega) w (by omega));have HD:=Hd (ziI n h10);have hl:(Lib.decDigits (n / 10)).length<=21:=by
   have:=zoV ((n / 10:Nat):Int) (by omega) (by omega);rw[zmA] at this;exact this
  have r2:Int.tdiv (n:Int) 10=((n / 10:Nat):Int):=(Int.ofNat_tdiv n 10).symm;rw[HD.out];clear ih;obtain ⟨sa,-⟩:=zpF (P:=Tryz.prog) (Lib.decDigits (n / 10)) [UInt8.ofNat (48+n % 10)] _ 21 1 rfl hl (by simp) (by decide);generalize n % 10=r at *;generalize UInt8.ofNat (48+r)=d at *;generalize Lib.decDigits (n / 10)=D at *;go_enter Tryz.func202,Tryz.ntmps202;go_wp2_with fail;refine (HI.out _).mono ?_;rintro e w2 ⟨rfl,hk2⟩;have HK2:=Hd hk2;clear hk2;go_wp2_with fail;go_ret;exact ⟨rfl,HK2.out⟩
end Go.Proofs.YtmcoomlkbgiboaaGreatDoor
