/- The suffixes a, b to z, aa and so on, in plain Lean. No condition. -/
import Derived.Test.YtmcoomlkbgiboaaGreatDoorV01
import Derived.Test.YtmcoomlkbgiboaaGreatDoorV14
import Derived.Test.YtmcoomlkbgiboaaGreatDoorV06
set_option linter.all false
set_option maxRecDepth 100000
set_option maxHeartbeats 1600000
namespace Go.Proofs.YtmcoomlkbgiboaaGreatDoor
open Go.RowKit
def zBl (n:Nat):Bs:=if h:n=0 then [] else UInt8.ofNat (97+(n - 1) % 26) :: zBl ((n - 1) / 26)
termination_by n
decreasing_by omega
def zfJ (n:Nat):Bs:=(zBl n).reverse
theorem zdS:zBl 0=[]:=by rw[zBl];rfl
theorem zeA {n:Nat} (h:0<n):zBl n=UInt8.ofNat (97+(n - 1) % 26) :: zBl ((n - 1) / 26):=by
 rw[zBl,dif_neg (by omega)]
theorem zu3 {r:Nat} (h:r<26):(UInt8.ofNat (97+r)).toNat=97+r:=by
 rw[UInt8.toNat_ofNat'];omega
theorem zCA:∀ (m n:Nat),zBl m=zBl n->m=n:=by
 intro m
 induction m using Nat.strongRecOn with
 | _ m ih =>
  intro n h;rcases Nat.eq_zero_or_pos m with rfl|hm
  ·rcases Nat.eq_zero_or_pos n with rfl|hn
   ·rfl
   ·rw[zdS,zeA hn] at h;cases h
  ·rcases Nat.eq_zero_or_pos n with rfl|hn
   ·rw[zdS,zeA hm] at h;cases h
   ·rw[zeA hm,zeA hn] at h;obtain ⟨h1,h2⟩:=List.cons.inj h;have h3:=congrArg UInt8.toNat h1;rw[zu3 (Nat.mod_lt _ (by decide)),zu3 (Nat.mod_lt _ (by decide))] at h3;have h4:=ih ((m - 1) / 26) (by omega) _ h2;omega
theorem zCB {m n:Nat} (h:zfJ m=zfJ n):m=n:=zCA m n (List.reverse_inj.1 h)
theorem zEo {n:Nat} (h:0<n):zfJ n≠[]:=by
 unfold zfJ;rw[zeA h];simp
theorem zCC:∀ n,(zBl n).length<=n:=by
 intro n
 induction n using Nat.strongRecOn with
 | _ n ih =>
  rcases Nat.eq_zero_or_pos n with rfl|hn
  ·rw[zdS];exact Nat.le_refl _
  ·rw[zeA hn,List.length_cons];have:=ih ((n - 1) / 26) (by omega);omega
theorem zCD (n:Nat):(zfJ n).length<=n:=by unfold zfJ;rw[List.length_reverse];exact zCC n
abbrev Tok:=List (Option UInt8)
def zeW (s:Bs):Tok->Bs
 | []=>[]
 | none :: l=>s ++ zeW s l
 | some b :: l=>b :: zeW s l
theorem zCE (s:Bs) (a b:Tok):zeW s (a ++ b)=zeW s a ++ zeW s b:=by
 induction a with
 | nil=>rfl
 | cons x a ih =>
  cases x with
  | none=>show s ++ zeW s (a ++ b)=(s ++ zeW s a) ++ _;rw[ih,List.append_assoc]
  | some c=>show c :: zeW s (a ++ b)=(c :: zeW s a) ++ _;rw[ih];rfl
theorem ztP {a b:UInt8} (hab:a≠b):∀ (l1 l2:Tok),zeW [a] l1=zeW [a] l2->zeW [b] l1=zeW [b] l2->l1=l2
 | [],[],_,_=>rfl
 | [],none :: l2,h,_=>by cases h
 | [],some c :: l2,h,_=>by cases h
 | none :: l1,[],h,_=>by cases h
 | some c :: l1,[],h,_=>by cases h
 | none :: l1,none :: l2,h1,h2=>by
  rw[ztP hab l1 l2 (List.cons.inj h1).2 (List.cons.inj h2).2]
 | none :: l1,some c :: l2,h1,h2=>by
  have e1:=(List.cons.inj (show a :: zeW [a] l1=c :: zeW [a] l2 from h1)).1;have e2:=(List.cons.inj (show b :: zeW [b] l1=c :: zeW [b] l2 from h2)).1;exact absurd (e1.trans e2.symm) hab
 | some c :: l1,none :: l2,h1,h2=>by
  have e1:=(List.cons.inj (show c :: zeW [a] l1=a :: zeW [a] l2 from h1)).1;have e2:=(List.cons.inj (show c :: zeW [b] l1=b :: zeW [b] l2 from h2)).1;exact absurd (e1.symm.trans e2) hab
 | some c :: l1,some d :: l2,h1,h2=>by
  have e1:=List.cons.inj (show c :: zeW [a] l1=d :: zeW [a] l2 from h1);have e2:=List.cons.inj (show c :: zeW [b] l1=d :: zeW [b] l2 from h2);rw[ztP hab l1 l2 e1.2 e2.2,e1.1]
theorem zAy (s:Bs) (l:Tok):(zeW s l).length=(l.filter Option.isSome).length+(l.filter Option.isNone).length * s.length:=by
 induction l with
 | nil=>simp [zeW]
 | cons x l ih =>
  cases x with
  | none =>
   show (s ++ zeW s l).length=_;rw[List.length_append,ih,List.filter_cons_of_neg (by simp),List.filter_cons_of_pos (by rfl),List.length_cons,Nat.add_mul];omega
  | some c =>
   show (zeW s l).length+1=_;rw[ih,List.filter_cons_of_pos (by rfl),List.filter_cons_of_neg (by simp),List.length_cons];omega
theorem zkI {s t:Bs} (h:s.length=t.length):∀ l:Tok,none∈l->zeW s l=zeW t l->s=t
 | [],hn,_=>(List.not_mem_nil hn).elim
 | none :: l,_,q=>(List.append_inj q h).1
 | some c :: l,hn,q=>by
  rcases List.mem_cons.1 hn with r|r
  ·cases r
  ·exact zkI h l r (List.cons.inj q).2
theorem zrY (s l:Bs):zeW s (l.map some)=l:=by
 induction l with
 | nil=>rfl
 | cons b l ih=>show b :: zeW s (l.map some)=_;rw[ih]
theorem zAz {α:Type} (s:Bs) (l:List α) (g:α->Tok):zeW s (l.flatMap g)=l.flatMap fun p=>zeW s (g p):=by
 induction l with
 | nil=>rfl
 | cons x l ih=>rw[List.flatMap_cons,List.flatMap_cons,zCE,ih]
theorem zAA (s:Bs):zeW s [none]=s:=by show s ++ []=s;rw[List.append_nil]
theorem zEp {s t:Bs} {l:Tok} (hn:none∈l) (h:zeW s l=zeW t l):s=t:=by
 have h1:=congrArg List.length h;rw[zAy,zAy] at h1;have hp:0<(l.filter Option.isNone).length:=List.length_pos_of_mem (List.mem_filter.2 ⟨hn,rfl⟩);have h2:(l.filter Option.isNone).length * s.length=(l.filter Option.isNone).length * t.length:=(by omega);exact zkI (Nat.eq_of_mul_eq_mul_left hp h2) l hn h
abbrev CitX:=Bs × Tok
def zfG (x:CitX) (n:Nat):Bs:=if n=0 then x.1 else zeW (zfJ n) x.2
theorem zg8 {x:CitX} {n:Nat} (h:0<n):zfG x n=zeW (zfJ n) x.2:=if_neg (by omega)
theorem zCF {x:CitX} (hx:none∈x.2) {m n:Nat} (hm:0<m) (hn:0<n) (h:zfG x m=zfG x n):m=n:=by
 rw[zg8 hm,zg8 hn] at h;exact zCB (zEp hx h)
def zrZ (taken:List Bs) (x:CitX):Nat->Nat->Nat
 | 0,n=>n+1
 | f+1,n=>if taken.contains (zfG x (n+1))=true then zrZ taken x f (n+1) else n+1
theorem ztQ {x:CitX} (hx:none∈x.2):∀ (m:Nat) (taken:List Bs) (a:Nat),0<a->(∀ j,j<m->zfG x (a+j)∈taken)->m<=taken.length
 | 0,_,_,_,_=>Nat.zero_le _
 | m+1,taken,a,ha,h=>by
  have hm:=h m (Nat.lt_succ_self m);have h1:=ztQ hx m (taken.filter fun t=>t != zfG x (a+m)) a ha (fun j hj=>by
   refine List.mem_filter.2 ⟨h j (by omega),?_⟩;rw[bne_iff_ne];intro e;have:=zCF hx (by omega) (by omega) e;omega)
  have h2:(taken.filter fun t=>t != zfG x (a+m)).length<taken.length:=by
   refine Nat.lt_of_le_of_ne (List.length_filter_le _ _) (fun e=>?_);have:=List.length_filter_eq_length_iff.1 e _ hm;simp at this
  omega
theorem zr0 {x:CitX} (hx:none∈x.2) (taken:List Bs):∀ (f n a:Nat),0<a->a<=n+1->(∀ j,a<=j->j<=n->zfG x j∈taken)->taken.length<=f+(n+1 - a) ->
  n<zrZ taken x f n/\zfG x (zrZ taken x f n) ∉ taken/\∀ j,a<=j->j<zrZ taken x f n->zfG x j∈taken
 | 0,n,a,ha,han,hall,hf=>by
  show n<n+1/\zfG x (n+1) ∉ taken/\∀ j,a<=j->j<n+1->zfG x j∈taken;refine ⟨by omega,fun q=>?_,fun j h1 h2=>hall j h1 (by omega)⟩;have:=ztQ hx (n+2 - a) taken a ha (fun j hj=>by
   by_cases e:a+j=n+1
   ·rw[e];exact q
   ·exact hall _ (by omega) (by omega))
  omega
 | f+1,n,a,ha,han,hall,hf=>by
  show n<(if taken.contains (zfG x (n+1))=true then zrZ taken x f (n+1) else n+1)/\zfG x (if taken.contains (zfG x (n+1))=true then zrZ taken x f (n+1) else n+1) ∉ taken/\∀ j,a<=j->j<(if taken.contains (zfG x (n+1))=true then zrZ taken x f (n+1) else n+1)->zfG x j∈taken;by_cases q:taken.contains (zfG x (n+1))=true
  ·rw[if_pos q];have hm:zfG x (n+1)∈taken:=(by simpa using q);obtain ⟨h1,h2,h3⟩:=zr0 hx taken f (n+1) a ha (by omega) (fun j k1 k2=>by
    by_cases e:j=n+1
    ·rw[e];exact hm
    ·exact hall j k1 (by omega)) (by omega)
   exact ⟨by omega,h2,h3⟩
  ·rw[if_neg q];exact ⟨by omega,by simpa using q,fun j h1 h2=>hall j h1 (by omega)⟩
def zb7 (ps:List Bs) (t:Bs):Bool:=ps.count t == 1
def zkS (x:CitX):Bs × Bs:=(zfG x 1,zfG x 2)
theorem zpS:zfJ 1=[97]:=by unfold zfJ;rw[zeA (by omega)];rw[show (1 - 1) / 26=0 from rfl,zdS];rfl
theorem zpT:zfJ 2=[98]:=by unfold zfJ;rw[zeA (by omega)];rw[show (2 - 1) / 26=0 from rfl,zdS];rfl
theorem zEq {x y:CitX} (h:zkS x=zkS y):x.2=y.2:=by
 have h1:=congrArg Prod.fst h;have h2:=congrArg Prod.snd h;simp only[zkS,zg8 (show 0<1 by omega),zg8 (show 0<2 by omega),zpS,zpT] at h1 h2;exact ztP (by decide) _ _ h1 h2
structure SufS where
 taken:List Bs
 next:Bs × Bs->Nat
 out:List Nat
def zhS (ps:List Bs) (st:SufS) (x:CitX):SufS :=
 if zb7 ps x.1=true then { st with out:=st.out ++ [0] }
 else ⟨st.taken ++ [zfG x (zrZ st.taken x st.taken.length (st.next (zkS x)))],fun k=>if k=zkS x then zrZ st.taken x st.taken.length (st.next (zkS x)) else st.next k,st.out ++ [zrZ st.taken x st.taken.length (st.next (zkS x))]⟩
def zF4 (ps:List Bs):SufS:=⟨ps.filter (zb7 ps),fun _=>0,[]⟩
def zcM (ps:List Bs) (xs:List CitX):SufS:=xs.foldl (zhS ps) (zF4 ps)
def zE8 (xs:List CitX):List Nat:=(zcM (xs.map (·.1)) xs).out
theorem zmR (ps:List Bs) (xs:List CitX) (x:CitX):zcM ps (xs ++ [x])=zhS ps (zcM ps xs) x:=by unfold zcM;rw[List.foldl_append];rfl
def zwS (xs:List CitX) (out:List Nat):List Bs:=List.zipWith zfG xs out
structure SufI (ps:List Bs) (done:List CitX) (st:SufS):Prop where
 len:st.out.length=done.length
 tk:∀ t,t∈st.taken↔(t∈ps/\zb7 ps t=true)\/t∈zwS done st.out
 nx:∀ (x:CitX) (n:Nat),none∈x.2->0<n->n<=st.next (zkS x)->zfG x n∈st.taken
 ne:∀ (i:Nat) (x:CitX),done[i]? = some x->zb7 ps x.1=true->st.out[i]? = some 0
 nd:(zwS done st.out).Nodup
 al:∀ (i:Nat) (x:CitX) (n:Nat),done[i]? = some x->st.out[i]? = some n->zb7 ps (zfG x n)=true->zfG x n∈ps->n=0/\zb7 ps x.1=true
 tl:st.taken.length<=(ps.filter (zb7 ps)).length+done.length
theorem zr1 {done:List CitX} {out:List Nat} (h:out.length=done.length) (x:CitX) (n:Nat):zwS (done ++ [x]) (out ++ [n])=zwS done out ++ [zfG x n]:=by
 unfold zwS;rw[List.zipWith_append h.symm];rfl
theorem zCG {done:List CitX} {out:List Nat} {t:Bs} (h:t∈zwS done out):∃ (i:Nat) (x:CitX) (n:Nat),done[i]? = some x/\out[i]? = some n/\zfG x n=t:=by
 obtain ⟨i,hi⟩:=List.getElem?_of_mem h;unfold zwS at hi;rw[List.getElem?_zipWith] at hi;cases h1:done[i]? with
 | none=>rw[h1] at hi;simp at hi
 | some x =>
  cases h2:out[i]? with
  | none=>rw[h1,h2] at hi;simp at hi
  | some n=>rw[h1,h2] at hi;exact ⟨i,x,n,h1,h2,by simpa using hi⟩
theorem zwT {done rest:List CitX} {x y:CitX} {j:Nat} (hy:done[j]? = some y) (h:zb7 ((done ++ x :: rest).map (·.1)) x.1=true):y.1≠x.1:=by
 intro e;unfold zb7 at h;rw[List.map_append,List.map_cons,List.count_append,List.count_cons_self,beq_iff_eq] at h;have:0<(done.map (·.1)).count x.1:=List.count_pos_iff.2 (List.mem_map.2 ⟨y,List.mem_of_getElem? hy,e⟩);omega
theorem SufI.zero (ps:List Bs):SufI ps [] (zF4 ps):=by
 refine ⟨rfl,fun t=>?_,fun x n _ h1 h2=>?_,fun i x h=>by simp at h,List.nodup_nil,fun i x n h=>by simp at h,Nat.le_refl _⟩
 ·show t∈ps.filter (zb7 ps)↔_\/t∈[];rw[List.mem_filter];simp
 ·have h2':n<=0:=h2;omega
theorem SufI.old {ps:List Bs} {done:List CitX} {st:SufS} (h:SufI ps done st) {x:CitX} (hx:none∈x.2):st.next (zkS x)<zrZ st.taken x st.taken.length (st.next (zkS x))/\zfG x (zrZ st.taken x st.taken.length (st.next (zkS x))) ∉ st.taken/\∀ j,1<=j->j<zrZ st.taken x st.taken.length (st.next (zkS x))->zfG x j∈st.taken :=
 zr0 hx st.taken st.taken.length (st.next (zkS x)) 1 (by omega) (by omega) (fun j h1 h2=>h.nx x j hx (by omega) h2) (by omega)
theorem zAB {done rest:List CitX} {st:SufS} {x:CitX} (h:SufI ((done ++ x :: rest).map (·.1)) done st) (ha:zb7 ((done ++ x :: rest).map (·.1)) x.1=true):x.1 ∉ zwS done st.out:=by
 intro q;obtain ⟨i,y,n,h1,h2,h3⟩:=zCG q;obtain ⟨rfl,-⟩:=h.al i y n h1 h2 (by rw[h3];exact ha) (by rw[h3];simp);exact zwT h1 ha h3
theorem SufI.step {done rest:List CitX} {st:SufS} {x:CitX} (h:SufI ((done ++ x :: rest).map (·.1)) done st) (hx:none∈x.2):SufI ((done ++ x :: rest).map (·.1)) (done ++ [x]) (zhS ((done ++ x :: rest).map (·.1)) st x):=by
 obtain ⟨ps,HP⟩:∃ ps,(done ++ x :: rest).map (·.1)=ps:=⟨_,rfl⟩;have hmem:x.1∈ps:=(by rw[<- HP];simp);unfold zhS;by_cases ha:zb7 ps x.1=true
 ·have hnew:x.1 ∉ zwS done st.out:=(by rw[<- HP] at ha;exact zAB h ha);rw[HP] at h ⊢;rw[if_pos ha];have e:=zr1 h.len x 0;have e0:zfG x 0=x.1:=rfl;rw[e0] at e;refine ⟨by simp [h.len],fun t=>?_,h.nx,fun i y hy hya=>?_,?_,fun i y n hy hn ht htp=>?_,by have:=h.tl;simp;omega⟩
  ·show t∈st.taken↔_\/t∈zwS (done ++ [x]) (st.out ++ [0]);rw[e,h.tk t,List.mem_append,List.mem_singleton];constructor
   ·rintro (q|q)
    ·exact .inl q
    ·exact .inr (.inl q)
   ·rintro (q|q|rfl)
    ·exact .inl q
    ·exact .inr q
    ·exact .inl ⟨hmem,ha⟩
  ·show (st.out ++ [0])[i]? = some 0;rcases Nat.lt_or_ge i done.length with q|q
   ·rw[List.getElem?_append_left q] at hy;rw[List.getElem?_append_left (by rw[h.len];exact q)];exact h.ne i y hy hya
   ·have hi:i=done.length:=(by have:=(List.getElem?_eq_some_iff.1 hy).1;simp at this;omega);subst hi;rw[<- h.len];simp
  ·show (zwS (done ++ [x]) (st.out ++ [0])).Nodup;rw[e,List.nodup_append];exact ⟨h.nd,by simp,fun a ha' b hb=>by rw[List.mem_singleton.1 hb];exact fun q=>hnew (q ▸ ha')⟩
  ·have hn':(st.out ++ [0])[i]? = some n:=hn;rcases Nat.lt_or_ge i done.length with q|q
   ·rw[List.getElem?_append_left q] at hy;rw[List.getElem?_append_left (by rw[h.len];exact q)] at hn';exact h.al i y n hy hn' ht htp
   ·have hi:i=done.length:=(by have:=(List.getElem?_eq_some_iff.1 hy).1;simp at this;omega);subst hi;have hy':x=y:=(by simpa using hy);subst hy';rw[<- h.len] at hn';have hn2:0=n:=(by simpa using hn');exact ⟨hn2.symm,ha⟩
 ·rw[HP] at h ⊢;rw[if_neg ha];obtain ⟨r1,r2,r3⟩:=h.old hx;generalize zrZ st.taken x st.taken.length (st.next (zkS x))=r at *;have e:=zr1 h.len x r;refine ⟨by simp [h.len],fun t=>?_,fun y n hy h1 h2=>?_,fun i y hy hya=>?_,?_,fun i y n hy hn ht htp=>?_,by have:=h.tl;simp;omega⟩
  ·show t∈st.taken ++ [zfG x r]↔_\/t∈zwS (done ++ [x]) (st.out ++ [r]);rw[e,List.mem_append,List.mem_append,List.mem_singleton,h.tk t];constructor
   ·rintro ((q|q)|q)
    ·exact .inl q
    ·exact .inr (.inl q)
    ·exact .inr (.inr q)
   ·rintro (q|q|q)
    ·exact .inl (.inl q)
    ·exact .inl (.inr q)
    ·exact .inr q
  ·show zfG y n∈st.taken ++ [zfG x r];have h2':n<=if zkS y=zkS x then r else st.next (zkS y):=h2;by_cases q:zkS y=zkS x
   ·rw[if_pos q] at h2';have ec:zfG y n=zfG x n:=(by rw[zg8 h1,zg8 h1,zEq q]);rw[ec];rcases Nat.lt_or_ge n r with k|k
    ·exact List.mem_append.2 (.inl (r3 n h1 k))
    ·rw[show n=r by omega];simp
   ·rw[if_neg q] at h2';exact List.mem_append.2 (.inl (h.nx y n hy h1 h2'))
  ·show (st.out ++ [r])[i]? = some 0;rcases Nat.lt_or_ge i done.length with q|q
   ·rw[List.getElem?_append_left q] at hy;rw[List.getElem?_append_left (by rw[h.len];exact q)];exact h.ne i y hy hya
   ·have hi:i=done.length:=(by have:=(List.getElem?_eq_some_iff.1 hy).1;simp at this;omega);subst hi;have hy':x=y:=(by simpa using hy);subst hy';exact absurd hya ha
  ·show (zwS (done ++ [x]) (st.out ++ [r])).Nodup;rw[e,List.nodup_append];exact ⟨h.nd,by simp,fun a ha' b hb=>by rw[List.mem_singleton.1 hb];exact fun q=>r2 ((h.tk _).2 (.inr (q ▸ ha')))⟩
  ·have hn':(st.out ++ [r])[i]? = some n:=hn;rcases Nat.lt_or_ge i done.length with q|q
   ·rw[List.getElem?_append_left q] at hy;rw[List.getElem?_append_left (by rw[h.len];exact q)] at hn';exact h.al i y n hy hn' ht htp
   ·have hi:i=done.length:=(by have:=(List.getElem?_eq_some_iff.1 hy).1;simp at this;omega);subst hi;have hy':x=y:=(by simpa using hy);subst hy';rw[<- h.len] at hn';have hn2:r=n:=(by simpa using hn');subst hn2;exact absurd ((h.tk _).2 (.inl ⟨htp,ht⟩)) r2
theorem zCH (xs:List CitX) (hx:∀ x∈xs,none∈x.2):∀ (done rest:List CitX),done ++ rest=xs->SufI (xs.map (·.1)) done (zcM (xs.map (·.1)) done):=by
 have key:∀ (n:Nat) (done rest:List CitX),done.length=n->done ++ rest=xs->SufI (xs.map (·.1)) done (zcM (xs.map (·.1)) done):=by
  intro n
  induction n with
  | zero =>
   intro done rest h1 _;obtain rfl:=List.length_eq_zero_iff.1 h1;exact .zero _
  | succ n ih =>
   intro done rest h1 h2;obtain ⟨o,y,rfl⟩:∃ o y,done=o ++ [y]:=⟨done.dropLast,done.getLast (by intro q;subst q;cases h1),(List.dropLast_concat_getLast _).symm⟩;have h3:o ++ y :: rest=xs:=(by rw[<- h2];simp);have h4:=ih o (y :: rest) (by simpa using h1) h3;rw[zmR];subst h3;exact h4.step (hx y (by simp))
 intro done rest h;exact key _ done rest rfl h
theorem zEr {l:Bs} {k:Nat} (hk:k<l.length) (h:l[k]=10):lnB l=false:=by
 unfold lnB;have:l.contains 10=true:=by
  rw[List.contains_iff_mem,<- h];exact List.getElem_mem hk
 rw[this];simp
theorem zE9 {l:Bs} (h:∀ k (hk:k<l.length),l[k]≠10):lnB l=zbQ (bs l):=by
 unfold lnB;have:l.contains 10=false:=by
  rw[Bool.eq_false_iff];intro q;rw[List.contains_iff_mem] at q;obtain ⟨k,hk,e⟩:=List.getElem_of_mem q;exact h k hk e
 rw[this];simp
theorem zfU (l:Bs) (w:World) (hl:l.length<=1100000):Calls Tryz.prog 57 #[.string (bs l)] w fun e w'=>e=.returned (.bool (lnB l))/\Kept w w':=by
 have HV:=Hd (fun w=>zvU (bs l) w (by simp;omega));have HF:Hid (∀ k (hk:k<l.length),l[k]=10->lnB l=false):=fun k hk h=>zEr hk h;have HT:Hid ((∀ k (hk:k<l.length),l[k]≠10)->lnB l=zbQ (bs l)):=fun h=>zE9 h;generalize lnB l=R at *;generalize zbQ (bs l)=V at *;go_enter Tryz.func57,Tryz.ntmps57;go_wp2_with fail
 go_loop [3] (fun i=>∃ k:Nat,k<=l.length/\i=.int .i64 k/\Hid (∀ j (hj:j<l.length),j<k->l[j]≠10)) (fun i=>l.length - (intOf i).toNat)
 case atStart=>exact ⟨0,Nat.zero_le _,rfl,fun j hj h=>by omega⟩
 case round =>
  obtain ⟨k,hk,rfl,HN⟩:=hrel;by_cases hlt:k<l.length
  ·have i0:=zc0 (P:=Tryz.prog) (t:=9) Tryz.underlying9 l k hlt k rfl;have HD:Hid (at8 l k=10↔l[k]=10):=(by show _↔_;rw[zbE l k hlt];exact zeY _ 10 (by decide));by_cases h1:at8 l k=10
   ·have HR:=Hd (HF.out k hlt (HD.out.1 h1));have hb':(at8 l k == 10)=true:=(by simpa using h1);generalize at8 l k=b at *;clear h1 HD;go_wp2_with fail;go_ret;exact ⟨zaN HR.out.symm,Kept.refl _⟩
   ·have HS:Hid (∀ j (hj:j<l.length),j<k+1->l[j]≠10):=by
     intro j hj hjk;rcases Nat.lt_or_ge j k with q|q
     ·exact HN.out j hj q
     ·obtain rfl:j=k:=(by omega);exact fun q=>h1 (HD.out.2 q)
    have hb':(at8 l k == 10)=false:=(by simpa using h1);generalize at8 l k=b at *;clear h1 HD HN;go_wp2_with fail
    go_round
    case rel=>exact ⟨k+1,by omega,by go_num,HS.out⟩
    case measure=>simp [intOf];omega
  ·obtain rfl:k=l.length:=(by omega);have HR:=Hd (HT.out (fun k hk=>HN.out k hk hk));go_wp2_with fail;refine (HV.out _).mono ?_;rintro e w1 ⟨rfl,hk1⟩;have HK1:=Hd hk1;clear hk1;go_wp2_with fail;go_ret;exact ⟨zaN HR.out.symm,HK1.out⟩
theorem zk8 (b:Int) (w:World) (h0:0<=b) (h1:b<256):Calls Tryz.prog 108 #[.int .u8 b] w fun e w'=>e=.returned (.bool (decide (97<=b) && decide (b<=122)))/\w=w':=by
 obtain ⟨R,HR⟩:∃ R,Hid ((decide (97<=b) && decide (b<=122))=R):=⟨_,rfl⟩;rw[HR.out];by_cases q1:97<=b
 ·by_cases q2:b<=122
  ·have HV:Hid (true=R):=(by show _=_;rw[<- HR.out,decide_eq_true q1,decide_eq_true q2];rfl);clear HR;go_enter Tryz.func108,Tryz.ntmps108;go_wp2_with fail;go_ret;exact ⟨zaN HV.out,rfl⟩
  ·have HV:Hid (false=R):=(by show _=_;rw[<- HR.out,decide_eq_true q1,decide_eq_false q2];rfl);clear HR;go_enter Tryz.func108,Tryz.ntmps108;go_wp2_with fail;go_ret;exact ⟨zaN HV.out,rfl⟩
 ·have HV:Hid (false=R):=(by show _=_;rw[<- HR.out,decide_eq_false q1];rfl);clear HR;go_enter Tryz.func108,Tryz.ntmps108;go_wp2_with fail;go_ret;exact ⟨zaN HV.out,rfl⟩
end Go.Proofs.YtmcoomlkbgiboaaGreatDoor
