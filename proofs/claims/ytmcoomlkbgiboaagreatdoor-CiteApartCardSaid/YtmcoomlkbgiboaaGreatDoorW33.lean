/- Texts with holes, in plain Lean. No condition. -/
import Derived.Test.YtmcoomlkbgiboaaGreatDoorW32
import Derived.Test.YtmcoomlkbgiboaaGreatDoorW14
import Derived.Test.YtmcoomlkbgiboaaGreatDoorW06
import Derived.Test.YtmcoomlkbgiboaaGreatDoorW18
import Derived.Test.YtmcoomlkbgiboaaGreatDoorW15
set_option linter.all false
set_option maxRecDepth 100000
set_option maxHeartbeats 12800000
namespace Go.Proofs.YtmcoomlkbgiboaaGreatDoor
open Go.RowKit
abbrev Tok:=List (Option UInt8)
def zeG (s:Bs):Tok->Bs
 | []=>[]
 | none :: l=>s ++ zeG s l
 | some b :: l=>b :: zeG s l
theorem zCl (s:Bs) (a b:Tok):zeG s (a ++ b)=zeG s a ++ zeG s b:=by
 induction a with
 | nil=>rfl
 | cons x a ih =>
  cases x with
  | none=>show s ++ zeG s (a ++ b)=(s ++ zeG s a) ++ _;rw[ih,List.append_assoc]
  | some c=>show c :: zeG s (a ++ b)=(c :: zeG s a) ++ _;rw[ih];rfl
theorem zsY {a b:UInt8} (hab:a≠b):∀ (l1 l2:Tok),zeG [a] l1=zeG [a] l2->zeG [b] l1=zeG [b] l2->l1=l2
 | [],[],_,_=>rfl
 | [],none :: l2,h,_=>by cases h
 | [],some c :: l2,h,_=>by cases h
 | none :: l1,[],h,_=>by cases h
 | some c :: l1,[],h,_=>by cases h
 | none :: l1,none :: l2,h1,h2=>by
  rw[zsY hab l1 l2 (List.cons.inj h1).2 (List.cons.inj h2).2]
 | none :: l1,some c :: l2,h1,h2=>by
  have e1:=(List.cons.inj (show a :: zeG [a] l1=c :: zeG [a] l2 from h1)).1;have e2:=(List.cons.inj (show b :: zeG [b] l1=c :: zeG [b] l2 from h2)).1;exact absurd (e1.trans e2.symm) hab
 | some c :: l1,none :: l2,h1,h2=>by
  have e1:=(List.cons.inj (show c :: zeG [a] l1=a :: zeG [a] l2 from h1)).1;have e2:=(List.cons.inj (show c :: zeG [b] l1=b :: zeG [b] l2 from h2)).1;exact absurd (e1.symm.trans e2) hab
 | some c :: l1,some d :: l2,h1,h2=>by
  have e1:=List.cons.inj (show c :: zeG [a] l1=d :: zeG [a] l2 from h1);have e2:=List.cons.inj (show c :: zeG [b] l1=d :: zeG [b] l2 from h2);rw[zsY hab l1 l2 e1.2 e2.2,e1.1]
theorem zz8 (s:Bs) (l:Tok):(zeG s l).length=(l.filter Option.isSome).length+(l.filter Option.isNone).length * s.length:=by
 induction l with
 | nil=>simp [zeG]
 | cons x l ih =>
  cases x with
  | none =>
   show (s ++ zeG s l).length=_;rw[List.length_append,ih,List.filter_cons_of_neg (by simp),List.filter_cons_of_pos (by rfl),List.length_cons,Nat.add_mul];omega
  | some c =>
   show (zeG s l).length+1=_;rw[ih,List.filter_cons_of_pos (by rfl),List.filter_cons_of_neg (by simp),List.length_cons];omega
theorem zj0 {s t:Bs} (h:s.length=t.length):∀ l:Tok,none∈l->zeG s l=zeG t l->s=t
 | [],hn,_=>(List.not_mem_nil hn).elim
 | none :: l,_,q=>(List.append_inj q h).1
 | some c :: l,hn,q=>by
  rcases List.mem_cons.1 hn with r|r
  ·cases r
  ·exact zj0 h l r (List.cons.inj q).2
theorem zrA (s l:Bs):zeG s (l.map some)=l:=by
 induction l with
 | nil=>rfl
 | cons b l ih=>show b :: zeG s (l.map some)=_;rw[ih]
theorem zz9 {α:Type} (s:Bs) (l:List α) (g:α->Tok):zeG s (l.flatMap g)=l.flatMap fun p=>zeG s (g p):=by
 induction l with
 | nil=>rfl
 | cons x l ih=>rw[List.flatMap_cons,List.flatMap_cons,zCl,ih]
theorem zAa (s:Bs):zeG s [none]=s:=by show s ++ []=s;rw[List.append_nil]
theorem zAb {s t:Bs} {l:Tok} (hn:none∈l) (h:zeG s l=zeG t l):s=t:=by
 have h1:=congrArg List.length h;rw[zz8,zz8] at h1;have hp:0<(l.filter Option.isNone).length:=List.length_pos_of_mem (List.mem_filter.2 ⟨hn,rfl⟩);have h2:(l.filter Option.isNone).length * s.length=(l.filter Option.isNone).length * t.length:=(by omega);exact zj0 (Nat.eq_of_mul_eq_mul_left hp h2) l hn h
abbrev CitX:=Bs × Tok
def zeQ (x:CitX) (n:Nat):Bs:=if n=0 then x.1 else zeG (zeB n) x.2
theorem zgV {x:CitX} {n:Nat} (h:0<n):zeQ x n=zeG (zeB n) x.2:=if_neg (by omega)
theorem zCm {x:CitX} (hx:none∈x.2) {m n:Nat} (hm:0<m) (hn:0<n) (h:zeQ x m=zeQ x n):m=n:=by
 rw[zgV hm,zgV hn] at h;exact zCj (zAb hx h)
def zrB (taken:List Bs) (x:CitX):Nat->Nat->Nat
 | 0,n=>n+1
 | f+1,n=>if taken.contains (zeQ x (n+1))=true then zrB taken x f (n+1) else n+1
theorem zsZ {x:CitX} (hx:none∈x.2):∀ (m:Nat) (taken:List Bs) (a:Nat),0<a->(∀ j,j<m->zeQ x (a+j)∈taken)->m<=taken.length
 | 0,_,_,_,_=>Nat.zero_le _
 | m+1,taken,a,ha,h=>by
  have hm:=h m (Nat.lt_succ_self m);have h1:=zsZ hx m (taken.filter fun t=>t != zeQ x (a+m)) a ha (fun j hj=>by
   refine List.mem_filter.2 ⟨h j (by omega),?_⟩;rw[bne_iff_ne];intro e;have:=zCm hx (by omega) (by omega) e;omega)
  have h2:(taken.filter fun t=>t != zeQ x (a+m)).length<taken.length:=by
   refine Nat.lt_of_le_of_ne (List.length_filter_le _ _) (fun e=>?_);have:=List.length_filter_eq_length_iff.1 e _ hm;simp at this
  omega
theorem zrC {x:CitX} (hx:none∈x.2) (taken:List Bs):∀ (f n a:Nat),0<a->a<=n+1->(∀ j,a<=j->j<=n->zeQ x j∈taken)->taken.length<=f+(n+1 - a) ->
  n<zrB taken x f n/\zeQ x (zrB taken x f n) ∉ taken/\∀ j,a<=j->j<zrB taken x f n->zeQ x j∈taken
 | 0,n,a,ha,han,hall,hf=>by
  show n<n+1/\zeQ x (n+1) ∉ taken/\∀ j,a<=j->j<n+1->zeQ x j∈taken;refine ⟨by omega,fun q=>?_,fun j h1 h2=>hall j h1 (by omega)⟩;have:=zsZ hx (n+2 - a) taken a ha (fun j hj=>by
   by_cases e:a+j=n+1
   ·rw[e];exact q
   ·exact hall _ (by omega) (by omega))
  omega
 | f+1,n,a,ha,han,hall,hf=>by
  show n<(if taken.contains (zeQ x (n+1))=true then zrB taken x f (n+1) else n+1)/\zeQ x (if taken.contains (zeQ x (n+1))=true then zrB taken x f (n+1) else n+1) ∉ taken/\∀ j,a<=j->j<(if taken.contains (zeQ x (n+1))=true then zrB taken x f (n+1) else n+1)->zeQ x j∈taken;by_cases q:taken.contains (zeQ x (n+1))=true
  ·rw[if_pos q];have hm:zeQ x (n+1)∈taken:=(by simpa using q);obtain ⟨h1,h2,h3⟩:=zrC hx taken f (n+1) a ha (by omega) (fun j k1 k2=>by
    by_cases e:j=n+1
    ·rw[e];exact hm
    ·exact hall j k1 (by omega)) (by omega)
   exact ⟨by omega,h2,h3⟩
  ·rw[if_neg q];exact ⟨by omega,by simpa using q,fun j h1 h2=>hall j h1 (by omega)⟩
def zb4 (ps:List Bs) (t:Bs):Bool:=ps.count t == 1
def zkB (x:CitX):Bs × Bs:=(zeQ x 1,zeQ x 2)
theorem zo5:zeB 1=[97]:=by unfold zeB;rw[zd2 (by omega)];rw[show (1 - 1) / 26=0 from rfl,zdO];rfl
theorem zo6:zeB 2=[98]:=by unfold zeB;rw[zd2 (by omega)];rw[show (2 - 1) / 26=0 from rfl,zdO];rfl
theorem zDY {x y:CitX} (h:zkB x=zkB y):x.2=y.2:=by
 have h1:=congrArg Prod.fst h;have h2:=congrArg Prod.snd h;simp only[zkB,zgV (show 0<1 by omega),zgV (show 0<2 by omega),zo5,zo6] at h1 h2;exact zsY (by decide) _ _ h1 h2
structure SufS where
 taken:List Bs
 next:Bs × Bs->Nat
 out:List Nat
def zgI (ps:List Bs) (st:SufS) (x:CitX):SufS :=
 if zb4 ps x.1=true then { st with out:=st.out ++ [0] }
 else ⟨st.taken ++ [zeQ x (zrB st.taken x st.taken.length (st.next (zkB x)))],fun k=>if k=zkB x then zrB st.taken x st.taken.length (st.next (zkB x)) else st.next k,st.out ++ [zrB st.taken x st.taken.length (st.next (zkB x))]⟩
def zFw (ps:List Bs):SufS:=⟨ps.filter (zb4 ps),fun _=>0,[]⟩
def zcC (ps:List Bs) (xs:List CitX):SufS:=xs.foldl (zgI ps) (zFw ps)
def zs0 (xs:List CitX):List Nat:=(zcC (xs.map (·.1)) xs).out
theorem zhH (ps:List Bs) (xs:List CitX) (x:CitX):zcC ps (xs ++ [x])=zgI ps (zcC ps xs) x:=by unfold zcC;rw[List.foldl_append];rfl
def zrD (xs:List CitX) (out:List Nat):List Bs:=List.zipWith zeQ xs out
structure SufI (ps:List Bs) (done:List CitX) (st:SufS):Prop where
 len:st.out.length=done.length
 tk:∀ t,t∈st.taken↔(t∈ps/\zb4 ps t=true)\/t∈zrD done st.out
 nx:∀ (x:CitX) (n:Nat),none∈x.2->0<n->n<=st.next (zkB x)->zeQ x n∈st.taken
 ne:∀ (i:Nat) (x:CitX),done[i]? = some x->zb4 ps x.1=true->st.out[i]? = some 0
 nd:(zrD done st.out).Nodup
 al:∀ (i:Nat) (x:CitX) (n:Nat),done[i]? = some x->st.out[i]? = some n->zb4 ps (zeQ x n)=true->zeQ x n∈ps->n=0/\zb4 ps x.1=true
 tl:st.taken.length<=(ps.filter (zb4 ps)).length+done.length
theorem zrE {done:List CitX} {out:List Nat} (h:out.length=done.length) (x:CitX) (n:Nat):zrD (done ++ [x]) (out ++ [n])=zrD done out ++ [zeQ x n]:=by
 unfold zrD;rw[List.zipWith_append h.symm];rfl
theorem zCn {done:List CitX} {out:List Nat} {t:Bs} (h:t∈zrD done out):∃ (i:Nat) (x:CitX) (n:Nat),done[i]? = some x/\out[i]? = some n/\zeQ x n=t:=by
 obtain ⟨i,hi⟩:=List.getElem?_of_mem h;unfold zrD at hi;rw[List.getElem?_zipWith] at hi;cases h1:done[i]? with
 | none=>rw[h1] at hi;simp at hi
 | some x =>
  cases h2:out[i]? with
  | none=>rw[h1,h2] at hi;simp at hi
  | some n=>rw[h1,h2] at hi;exact ⟨i,x,n,h1,h2,by simpa using hi⟩
theorem zwH {done rest:List CitX} {x y:CitX} {j:Nat} (hy:done[j]? = some y) (h:zb4 ((done ++ x :: rest).map (·.1)) x.1=true):y.1≠x.1:=by
 intro e;unfold zb4 at h;rw[List.map_append,List.map_cons,List.count_append,List.count_cons_self,beq_iff_eq] at h;have:0<(done.map (·.1)).count x.1:=List.count_pos_iff.2 (List.mem_map.2 ⟨y,List.mem_of_getElem? hy,e⟩);omega
theorem SufI.zero (ps:List Bs):SufI ps [] (zFw ps):=by
 refine ⟨rfl,fun t=>?_,fun x n _ h1 h2=>?_,fun i x h=>by simp at h,List.nodup_nil,fun i x n h=>by simp at h,Nat.le_refl _⟩
 ·show t∈ps.filter (zb4 ps)↔_\/t∈[];rw[List.mem_filter];simp
 ·have h2':n<=0:=h2;omega
theorem SufI.old {ps:List Bs} {done:List CitX} {st:SufS} (h:SufI ps done st) {x:CitX} (hx:none∈x.2):st.next (zkB x)<zrB st.taken x st.taken.length (st.next (zkB x))/\zeQ x (zrB st.taken x st.taken.length (st.next (zkB x))) ∉ st.taken/\∀ j,1<=j->j<zrB st.taken x st.taken.length (st.next (zkB x))->zeQ x j∈st.taken :=
 zrC hx st.taken st.taken.length (st.next (zkB x)) 1 (by omega) (by omega) (fun j h1 h2=>h.nx x j hx (by omega) h2) (by omega)
theorem zAc {done rest:List CitX} {st:SufS} {x:CitX} (h:SufI ((done ++ x :: rest).map (·.1)) done st) (ha:zb4 ((done ++ x :: rest).map (·.1)) x.1=true):x.1 ∉ zrD done st.out:=by
 intro q;obtain ⟨i,y,n,h1,h2,h3⟩:=zCn q;obtain ⟨rfl,-⟩:=h.al i y n h1 h2 (by rw[h3];exact ha) (by rw[h3];simp);exact zwH h1 ha h3
theorem SufI.step {done rest:List CitX} {st:SufS} {x:CitX} (h:SufI ((done ++ x :: rest).map (·.1)) done st) (hx:none∈x.2):SufI ((done ++ x :: rest).map (·.1)) (done ++ [x]) (zgI ((done ++ x :: rest).map (·.1)) st x):=by
 obtain ⟨ps,HP⟩:∃ ps,(done ++ x :: rest).map (·.1)=ps:=⟨_,rfl⟩;have hmem:x.1∈ps:=(by rw[<- HP];simp);unfold zgI;by_cases ha:zb4 ps x.1=true
 ·have hnew:x.1 ∉ zrD done st.out:=(by rw[<- HP] at ha;exact zAc h ha);rw[HP] at h ⊢;rw[if_pos ha];have e:=zrE h.len x 0;have e0:zeQ x 0=x.1:=rfl;rw[e0] at e;refine ⟨by simp [h.len],fun t=>?_,h.nx,fun i y hy hya=>?_,?_,fun i y n hy hn ht htp=>?_,by have:=h.tl;simp;omega⟩
  ·show t∈st.taken↔_\/t∈zrD (done ++ [x]) (st.out ++ [0]);rw[e,h.tk t,List.mem_append,List.mem_singleton];constructor
   ·rintro (q|q)
    ·exact .inl q
    ·exact .inr (.inl q)
   ·rintro (q|q|rfl)
    ·exact .inl q
    ·exact .inr q
    ·exact .inl ⟨hmem,ha⟩
  ·show (st.out ++ [0])[i]? = some 0;rcases Nat.lt_or_ge i done.length with q|q
   ·rw[List.getElem?_append_left q] at hy;rw[List.getElem?_append_left (by rw[h.len];exact q)];exact h.ne i y hy hya
   ·have hi:i=done.length:=(by have:=(List.getElem?_eq_some_iff.1 hy).1;simp at this;omega);subst hi;rw[<- h.len];simp
  ·show (zrD (done ++ [x]) (st.out ++ [0])).Nodup;rw[e,List.nodup_append];exact ⟨h.nd,by simp,fun a ha' b hb=>by rw[List.mem_singleton.1 hb];exact fun q=>hnew (q ▸ ha')⟩
  ·have hn':(st.out ++ [0])[i]? = some n:=hn;rcases Nat.lt_or_ge i done.length with q|q
   ·rw[List.getElem?_append_left q] at hy;rw[List.getElem?_append_left (by rw[h.len];exact q)] at hn';exact h.al i y n hy hn' ht htp
   ·have hi:i=done.length:=(by have:=(List.getElem?_eq_some_iff.1 hy).1;simp at this;omega);subst hi;have hy':x=y:=(by simpa using hy);subst hy';rw[<- h.len] at hn';have hn2:0=n:=(by simpa using hn');exact ⟨hn2.symm,ha⟩
 ·rw[HP] at h ⊢;rw[if_neg ha];obtain ⟨r1,r2,r3⟩:=h.old hx;generalize zrB st.taken x st.taken.length (st.next (zkB x))=r at *;have e:=zrE h.len x r;refine ⟨by simp [h.len],fun t=>?_,fun y n hy h1 h2=>?_,fun i y hy hya=>?_,?_,fun i y n hy hn ht htp=>?_,by have:=h.tl;simp;omega⟩
  ·show t∈st.taken ++ [zeQ x r]↔_\/t∈zrD (done ++ [x]) (st.out ++ [r]);rw[e,List.mem_append,List.mem_append,List.mem_singleton,h.tk t];constructor
   ·rintro ((q|q)|q)
    ·exact .inl q
    ·exact .inr (.inl q)
    ·exact .inr (.inr q)
   ·rintro (q|q|q)
    ·exact .inl (.inl q)
    ·exact .inl (.inr q)
    ·exact .inr q
  ·show zeQ y n∈st.taken ++ [zeQ x r];have h2':n<=if zkB y=zkB x then r else st.next (zkB y):=h2;by_cases q:zkB y=zkB x
   ·rw[if_pos q] at h2';have ec:zeQ y n=zeQ x n:=(by rw[zgV h1,zgV h1,zDY q]);rw[ec];rcases Nat.lt_or_ge n r with k|k
    ·exact List.mem_append.2 (.inl (r3 n h1 k))
    ·rw[show n=r by omega];simp
   ·rw[if_neg q] at h2';exact List.mem_append.2 (.inl (h.nx y n hy h1 h2'))
  ·show (st.out ++ [r])[i]? = some 0;rcases Nat.lt_or_ge i done.length with q|q
   ·rw[List.getElem?_append_left q] at hy;rw[List.getElem?_append_left (by rw[h.len];exact q)];exact h.ne i y hy hya
   ·have hi:i=done.length:=(by have:=(List.getElem?_eq_some_iff.1 hy).1;simp at this;omega);subst hi;have hy':x=y:=(by simpa using hy);subst hy';exact absurd hya ha
  ·show (zrD (done ++ [x]) (st.out ++ [r])).Nodup;rw[e,List.nodup_append];exact ⟨h.nd,by simp,fun a ha' b hb=>by rw[List.mem_singleton.1 hb];exact fun q=>r2 ((h.tk _).2 (.inr (q ▸ ha')))⟩
  ·have hn':(st.out ++ [r])[i]? = some n:=hn;rcases Nat.lt_or_ge i done.length with q|q
   ·rw[List.getElem?_append_left q] at hy;rw[List.getElem?_append_left (by rw[h.len];exact q)] at hn';exact h.al i y n hy hn' ht htp
   ·have hi:i=done.length:=(by have:=(List.getElem?_eq_some_iff.1 hy).1;simp at this;omega);subst hi;have hy':x=y:=(by simpa using hy);subst hy';rw[<- h.len] at hn';have hn2:r=n:=(by simpa using hn');subst hn2;exact absurd ((h.tk _).2 (.inl ⟨htp,ht⟩)) r2
theorem zkS (xs:List CitX) (hx:∀ x∈xs,none∈x.2):∀ (done rest:List CitX),done ++ rest=xs->SufI (xs.map (·.1)) done (zcC (xs.map (·.1)) done):=by
 have key:∀ (n:Nat) (done rest:List CitX),done.length=n->done ++ rest=xs->SufI (xs.map (·.1)) done (zcC (xs.map (·.1)) done):=by
  intro n
  induction n with
  | zero =>
   intro done rest h1 _;obtain rfl:=List.length_eq_zero_iff.1 h1;exact .zero _
  | succ n ih =>
   intro done rest h1 h2;obtain ⟨o,y,rfl⟩:∃ o y,done=o ++ [y]:=⟨done.dropLast,done.getLast (by intro q;subst q;cases h1),(List.dropLast_concat_getLast _).symm⟩;have h3:o ++ y :: rest=xs:=(by rw[<- h2];simp);have h4:=ih o (y :: rest) (by simpa using h1) h3;rw[zhH];subst h3;exact h4.step (hx y (by simp))
 intro done rest h;exact key _ done rest rfl h
theorem zuE (xs:List CitX) (hx:∀ x∈xs,none∈x.2):(zs0 xs).length=xs.length:=(zkS xs hx xs [] (by simp)).len
theorem zAd (xs:List CitX) (hx:∀ x∈xs,none∈x.2):(zrD xs (zs0 xs)).Nodup:=(zkS xs hx xs [] (by simp)).nd
theorem zDZ {l:Bs} {k:Nat} (hk:k<l.length) (h:l[k]=10):lnB l=false:=by
 unfold lnB;have:l.contains 10=true:=by
  rw[List.contains_iff_mem,<- h];exact List.getElem_mem hk
 rw[this];simp
theorem zEG {l:Bs} (h:∀ k (hk:k<l.length),l[k]≠10):lnB l=zbG (bs l):=by
 unfold lnB;have:l.contains 10=false:=by
  rw[Bool.eq_false_iff];intro q;rw[List.contains_iff_mem] at q;obtain ⟨k,hk,e⟩:=List.getElem_of_mem q;exact h k hk e
 rw[this];simp
theorem zfQ (l:Bs) (w:World) (hl:l.length<=1100000):Calls Tryz.prog 57 #[.string (bs l)] w fun e w'=>e=.returned (.bool (lnB l))/\Kept w w':=by
 have HV:=Hd (fun w=>ziX (bs l) w (by simp;omega));have HF:Hid (∀ k (hk:k<l.length),l[k]=10->lnB l=false):=fun k hk h=>zDZ hk h;have HT:Hid ((∀ k (hk:k<l.length),l[k]≠10)->lnB l=zbG (bs l)):=fun h=>zEG h;generalize lnB l=R at *;generalize zbG (bs l)=V at *;go_enter Tryz.func57,Tryz.ntmps57;go_wp2_with fail
 go_loop [3] (fun i=>∃ k:Nat,k<=l.length/\i=.int .i64 k/\Hid (∀ j (hj:j<l.length),j<k->l[j]≠10)) (fun i=>l.length - (intOf i).toNat)
 case atStart=>exact ⟨0,Nat.zero_le _,rfl,fun j hj h=>by omega⟩
 case round =>
  obtain ⟨k,hk,rfl,HN⟩:=hrel;by_cases hlt:k<l.length
  ·have i0:=zb6 (P:=Tryz.prog) (t:=9) Tryz.underlying9 l k hlt k rfl;have HD:Hid (at8 l k=10↔l[k]=10):=(by show _↔_;rw[za7 l k hlt];exact zcZ _ 10 (by decide));by_cases h1:at8 l k=10
   ·have HR:=Hd (HF.out k hlt (HD.out.1 h1));have hb':(at8 l k == 10)=true:=(by simpa using h1);generalize at8 l k=b at *;clear h1 HD;go_wp2_with fail;go_ret;exact ⟨zaH HR.out.symm,Kept.refl _⟩
   ·have HS:Hid (∀ j (hj:j<l.length),j<k+1->l[j]≠10):=by
     intro j hj hjk;rcases Nat.lt_or_ge j k with q|q
     ·exact HN.out j hj q
     ·obtain rfl:j=k:=(by omega);exact fun q=>h1 (HD.out.2 q)
    have hb':(at8 l k == 10)=false:=(by simpa using h1);generalize at8 l k=b at *;clear h1 HD HN;go_wp2_with fail
    go_round
    case rel=>exact ⟨k+1,by omega,by go_num,HS.out⟩
    case measure=>simp [intOf];omega
  ·obtain rfl:k=l.length:=(by omega);have HR:=Hd (HT.out (fun k hk=>HN.out k hk hk));go_wp2_with fail;refine (HV.out _).mono ?_;rintro e w1 ⟨rfl,hk1⟩;have HK1:=Hd hk1;clear hk1;go_wp2_with fail;go_ret;exact ⟨zaH HR.out.symm,HK1.out⟩
theorem zkT (b:Int) (w:World) (h0:0<=b) (h1:b<256):Calls Tryz.prog 108 #[.int .u8 b] w fun e w'=>e=.returned (.bool (decide (97<=b) && decide (b<=122)))/\w=w':=by
 obtain ⟨R,HR⟩:∃ R,Hid ((decide (97<=b) && decide (b<=122))=R):=⟨_,rfl⟩;rw[HR.out];by_cases q1:97<=b
 ·by_cases q2:b<=122
  ·have HV:Hid (true=R):=(by show _=_;rw[<- HR.out,decide_eq_true q1,decide_eq_true q2];rfl);clear HR;go_enter Tryz.func108,Tryz.ntmps108;go_wp2_with fail;go_ret;exact ⟨zaH HV.out,rfl⟩
  ·have HV:Hid (false=R):=(by show _=_;rw[<- HR.out,decide_eq_true q1,decide_eq_false q2];rfl);clear HR;go_enter Tryz.func108,Tryz.ntmps108;go_wp2_with fail;go_ret;exact ⟨zaH HV.out,rfl⟩
 ·have HV:Hid (false=R):=(by show _=_;rw[<- HR.out,decide_eq_false q1];rfl);clear HR;go_enter Tryz.func108,Tryz.ntmps108;go_wp2_with fail;go_ret;exact ⟨zaH HV.out,rfl⟩
def rpC (ps:List Rp):List Value:=ps.flatMap fun q=>[.string (bs q.txt),.string (bs q.fld),.int .i64 (q.grp:Int)]
theorem zCo (ps:List Rp) (q:Rp):rpC (ps ++ [q])=rpC ps ++ [.string (bs q.txt),.string (bs q.fld),.int .i64 (q.grp:Int)]:=by simp [rpC]
theorem zEH (ps:List Rp) (j:Nat) (q:Rp) (h:ps[j]? = some q):(rpC ps)[j * 3]? = some (.string (bs q.txt))/\(rpC ps)[j * 3+1]? = some (.string (bs q.fld))/\(rpC ps)[j * 3+2]? = some (.int .i64 (q.grp:Int)):=by
 induction ps generalizing j with
 | nil=>cases h
 | cons p ps ih =>
  have e:rpC (p :: ps)=[.string (bs p.txt),.string (bs p.fld),.int .i64 (p.grp:Int)] ++ rpC ps:=(by simp [rpC]);rw[e];cases j with
  | zero =>
   simp at h;subst h;exact ⟨rfl,rfl,rfl⟩
  | succ j =>
   obtain ⟨h0,h1,h2⟩:=ih j (by simpa using h);rw[List.getElem?_append_right (by simp;omega),List.getElem?_append_right (by simp;omega),List.getElem?_append_right (by simp;omega)];simp only[List.length_cons,List.length_nil];rw[show (j+1) * 3 - (0+1+1+1)=j * 3 by omega,show (j+1) * 3+1 - (0+1+1+1)=j * 3+1 by omega,show (j+1) * 3+2 - (0+1+1+1)=j * 3+2 by omega];exact ⟨h0,h1,h2⟩
def Rps (w:World) (v:Value) (ps:List Rp):Prop :=
 ∃ a c,v=.slice a ps.length c/\ps.length<=c/\(0<ps.length->∃ g o,a=some ⟨g,o,none⟩/\g<w.heap.size/\∀ j q,ps[j]? = some q ->
  w.cell? ⟨g,o+j * 3,none⟩=some (.string (bs q.txt))/\w.cell? ⟨g,o+j * 3+1,none⟩=some (.string (bs q.fld))/\w.cell? ⟨g,o+j * 3+2,none⟩=some (.int .i64 (q.grp:Int)))
theorem Rps.kept {w w':World} {v:Value} {ps:List Rp} (h:Rps w v ps) (k:Kept w w'):Rps w' v ps:=by
 obtain ⟨a,c,hv,hc,h3⟩:=h;refine ⟨a,c,hv,hc,fun q=>?_⟩;obtain ⟨g,o,ha,hg,hcell⟩:=h3 q;refine ⟨g,o,ha,Nat.lt_of_lt_of_le hg k.size,fun j x hx=>?_⟩;obtain ⟨c0,c1,c2⟩:=hcell j x hx;exact ⟨(k.cell (p:=⟨g,o+j * 3,none⟩) hg).trans c0,(k.cell (p:=⟨g,o+j * 3+1,none⟩) hg).trans c1,(k.cell (p:=⟨g,o+j * 3+2,none⟩) hg).trans c2⟩
theorem Rps.own {w:World} {base:Nat} {e:TypeId} {v:Value} {ps:List Rp} (h:w.ownsRow base e 3 v ps.length (rpC ps)):Rps w v ps:=by
 obtain ⟨a,c,hv,hc,_,h3⟩:=za1 h;refine ⟨a,c,hv,hc,fun q=>?_⟩;obtain ⟨g,ha,_,hg,hcell⟩:=h3 q;refine ⟨g,0,ha,hg,fun j x hx=>?_⟩;obtain ⟨c0,c1,c2⟩:=zEH ps j x hx;simp only[Nat.zero_add];exact ⟨hcell _ _ c0,hcell _ _ c1,hcell _ _ c2⟩
theorem Rps.form {w:World} {v:Value} {ps:List Rp} (h:Rps w v ps):∃ a c,v=.slice a ps.length c/\ps.length<=c:=by
 obtain ⟨a,c,hv,hc,_⟩:=h;exact ⟨a,c,hv,hc⟩
theorem Rps.cell_of {w:World} {a:Option Addr} {n c:Nat} {ps:List Rp} (h:Rps w (.slice a n c) ps) (k:Nat) (q:Rp) (hx:ps[k]? = some q) :
  ∃ g o,a=some ⟨g,o,none⟩/\g<w.heap.size/\w.cell? ⟨g,o+k * 3,none⟩=some (.string (bs q.txt))/\w.cell? ⟨g,o+k * 3+1,none⟩=some (.string (bs q.fld))/\w.cell? ⟨g,o+k * 3+2,none⟩=some (.int .i64 (q.grp:Int)):=by
 obtain ⟨a',c',hv,hc,h3⟩:=h;obtain ⟨rfl,rfl,rfl⟩:=Value.slice.inj hv;obtain ⟨hk,_⟩:=List.getElem?_eq_some_iff.1 hx;obtain ⟨g,o,ha,hg,hcell⟩:=h3 (by omega);obtain ⟨c0,c1,c2⟩:=hcell k q hx;exact ⟨g,o,ha,hg,c0,c1,c2⟩
theorem Tryz.infoRp:(Tryz.prog.info? 205).map (fun i=>(i.zero,i.size,i.bytes))=some (some (.agg #[.string ⟨#[]⟩,.string ⟨#[]⟩,.int .i64 0]),3,40):=by kernel_rfl
theorem zcP (w:World) {ops:Array Oper} {rest:List Oper} {o:Oper} {a:Act} {Q:Exit->Act->World->Prop} (hgd:o.guard=none) (s x:Operand)
  (ho:o.op=.call { callee:=.builtin .append,args:=#[s,x],argTypes:=#[167,167] })
  (base:Nat) (v:Value) (ps:List Rp) (hs:a.eval s=v) (hown:w.ownsRow base 205 3 v ps.length (rpC ps)) (q:Rp) (g:Nat) (hx:a.eval x=.slice (some ⟨g,0,none⟩) 1 1)
  (hb:Blk w g 205 #[.string (bs q.txt),.string (bs q.fld),.int .i64 (q.grp:Int)]) (hl:ps.length<=1000000) (hbase:base<=w.heap.size)
  (h:∀ v' w',w'.ownsRow base 205 3 v' (ps ++ [q]).length (rpC (ps ++ [q]))->w.grownBy w' v.ownBlock->wpList Tryz.prog ops Q rest (a.put o.dst v') w') :
  wpList Tryz.prog ops Q (o :: rest) a w:=by
 obtain ⟨i0,hi,hz0,hz1,hz2⟩:=info_parts Tryz.infoRp;refine wpList_append_lies w hgd s x 167 ho base 205 i0 (.agg #[.string ⟨#[]⟩,.string ⟨#[]⟩,.int .i64 0]) 3 40 Tryz.underlying167 hi hz0 hz1 hz2 rfl (by decide) v ps.length (rpC ps) hs hown ⟨g,0,none⟩ 1 1 [.string (bs q.txt),.string (bs q.fld),.int .i64 (q.grp:Int)] hx rfl (fun j u hu=>?_) (fun u hu=>?_) (by decide) (by unfold maxLen;omega) (by omega) hbase w.heap.size rfl (fun g' cap w' h1 h2 _ _=>h _ w' ?_ h2)
 ·rw[zoH,Nat.zero_add]
  match j with
  | 0=>cases hu;exact hb.cell 0 _ rfl
  | 1=>cases hu;exact hb.cell 1 _ rfl
  | 2=>cases hu;exact hb.cell 2 _ rfl
  | j+3=>simp at hu
 ·simp at hu;rcases hu with rfl|rfl|rfl <;> rfl
 ·rw[zCo,List.length_append];exact h1
def zs1 (l:Bs):Nat:=(l.takeWhile zdZ).length
theorem zmA {r:Bs} {j:Nat} (h:∀ i (hi:i<r.length),i<j->zdZ r[i]=true) (hj:j<=r.length) (hn:∀ (hi:j<r.length),zdZ r[j]=false):zs1 r=j:=by
 induction r generalizing j with
 | nil=>simp at hj;subst hj;rfl
 | cons b r ih =>
  cases j with
  | zero =>
   have:=hn (by simp);simp only[List.getElem_cons_zero] at this;unfold zs1;rw[List.takeWhile_cons,this];rfl
  | succ j =>
   have h0:=h 0 (by simp) (by omega);simp only[List.getElem_cons_zero] at h0;have:=ih (j:=j) (fun i hi hij=>by have:=h (i+1) (by simp;omega) (by omega);simpa using this) (by simpa using hj) (fun hi=>by have:=hn (by simp;omega);simpa using this);unfold zs1 at this ⊢;rw[List.takeWhile_cons,h0,if_pos rfl,List.length_cons,this]
theorem zmB {c:UInt8} {r:Bs} {j:Nat} (h:∀ i (hi:i<r.length),i<j->r[i]≠c) (hj:j<r.length) (he:r[j]=c):zaI c r=j:=by
 rcases Nat.lt_trichotomy (zaI c r) j with q|q|q
 ·exact absurd (zk8 c r (by omega)) (h _ (by omega) q)
 ·exact q
 ·exact absurd he (zr4 c r j q hj)
theorem zmC {b:UInt8} (h:zdZ b=true):b≠125:=by
 rintro rfl;exact absurd h (by decide)
theorem zCp (r:Bs):(zaI 125 r<r.length/\za6 (r.take (zaI 125 r)) 20 []=true)↔(1<=zs1 r/\zs1 r<=20/\∃ h:zs1 r<r.length,r[zs1 r]=125):=by
 have hall:∀ i (hi:i<r.length),i<zs1 r->zdZ r[i]=true:=by
  intro i hi hl;unfold zs1 at hl;have h1:(r.takeWhile zdZ)[i]'hl∈r.takeWhile zdZ:=List.getElem_mem hl;have h2:=List.all_eq_true.1 (List.all_takeWhile (p:=zdZ) (l:=r)) _ h1;have h3:(r.takeWhile zdZ)[i]'hl=r[i]:=List.IsPrefix.getElem (List.takeWhile_prefix _) hl
  rwa [h3] at h2
 constructor
 ·rintro ⟨h1,h2⟩;have h3:=zk8 125 r h1;unfold za6 at h2;rw[Bool.and_eq_true,Bool.and_eq_true,decide_eq_true_eq,decide_eq_true_eq,List.all_eq_true,List.length_take] at h2;obtain ⟨a1,a2,a3⟩:=h2;have hlow:∀ i (hi:i<r.length),i<zaI 125 r->zdZ r[i]=true:=fun i hi hb=>by
   have:=a3 r[i] (List.mem_take_iff_getElem.2 ⟨i,by omega,rfl⟩);simpa using this
  have e:zs1 r=zaI 125 r:=zmA hlow (by omega) (fun hi=>by rw[h3];decide);rw[e];exact ⟨by omega,by omega,h1,h3⟩
 ·rintro ⟨h1,h2,h3,h4⟩;have e:zaI 125 r=zs1 r:=zmB (fun i hi hl=>zmC (hall i hi hl)) h3 h4;rw[e];refine ⟨h3,?_⟩;unfold za6;rw[Bool.and_eq_true,Bool.and_eq_true,decide_eq_true_eq,decide_eq_true_eq,List.all_eq_true,List.length_take];refine ⟨by omega,by omega,fun b hb=>?_⟩;obtain ⟨i,hi,e⟩:=List.mem_take_iff_getElem.1 hb;rw[<- e,hall i (by omega) (by omega)];rfl
def PartsP (S:Option (List Rp)) (w:World) (e:Ending) (w':World):Prop:=∃ v,e=.returned (.tuple #[v,.bool S.isSome])/\v.oneCell'=true/\(∀ l,S=some l->Rps w' v l)/\Kept w w'
theorem zo7 (ps:List Rp) (q:Rp) (o:Option (List Rp)):(o.map fun l=>q :: l).map (ps ++ ·)=o.map ((ps ++ [q]) ++ ·):=by
 cases o <;> simp
theorem znV (t:Bs) (w:World) (ht:t.length<=100000):Calls Tryz.prog 111 #[.string (bs t)] w (PartsP (zm1 t) w):=by
 have H5:Hid (zm1 t=none->∀ w',Kept w w'->PartsP (zm1 t) w (.returned (.tuple #[.slice none 0 0,.bool false])) w'):=fun h w' k=>by
  rw[h];exact ⟨_,rfl,rfl,(fun l q=>by cases q),k⟩
 have H6:Hid (zm1 t=none->∀ v w',v.oneCell'=true->Kept w w'->PartsP (zm1 t) w (.returned (.tuple #[v,.bool false])) w'):=fun h v w' hv k=>by
  rw[h];exact ⟨_,rfl,hv,(fun l q=>by cases q),k⟩
 have HOK:Hid (∀ l,zm1 t=some l->∀ w' v,Rps w' v l->Kept w w'->PartsP (zm1 t) w (.returned (.tuple #[v,.bool true])) w'):=fun l h w' v hp k=>by
  rw[h];refine ⟨v,rfl,?_,(fun l' q=>by cases q;exact hp),k⟩;obtain ⟨a,c,rfl,_⟩:=hp.form;rfl
 have H0:Hid (zm1 t=(zj4 (t.length+1) (t.drop 0) 0 0).map (([]:List Rp) ++ ·)):=by
  show _=_;rw[zyU,List.drop_zero];cases zj4 (t.length+1) t 0 0 <;> simp
 generalize hP:PartsP (zm1 t) w=P at *;generalize zm1 t=S at *;clear hP;go_enter Tryz.func111,Tryz.ntmps111;go_wp2_with fail;go_loopw [4,5,6,7] (fun ov gv hv iv wr=>∃ (f:Nat) (ps:List Rp) (G g i:Nat),gv=.int .i64 G/\hv=.bool (!(g == 0))/\iv=.int .i64 i/\Hid (wr.ownsRow w.heap.size 205 3 ov ps.length (rpC ps))/\i<=t.length/\t.length - i<f/\ps.length<=i/\G<=i/\(g=0\/g=G)/\Hid (S=(zj4 f (t.drop i) G g).map (ps ++ ·))/\Hid (Kept w wr)) (fun _ _ _ iv _=>t.length - (intOf iv).toNat)
 case atStart=>exact ⟨t.length+1,[],0,0,0,rfl,rfl,rfl,World.ownsRow_nil _ _ _ _,by omega,by omega,by simp,by omega,.inl rfl,H0.out,Kept.refl _⟩
 case round =>
  obtain ⟨f,ps,G,g,i,rfl,rfl,rfl,HOWN,hi,hf,hps,hG,hgG,HSP,HKR⟩:=hrel;obtain ⟨f,rfl⟩:∃ f',f=f'+1:=⟨f - 1,by omega⟩;have hsz:w.heap.size<=wr.heap.size:=HKR.out.size;by_cases hlt:i<t.length
  ·have i0:=zb6 (P:=Tryz.prog) (t:=9) Tryz.underlying9 t i hlt i rfl;have i1:=zk1 (P:=Tryz.prog) (t:=9) Tryz.underlying9 t i (i+1) (by omega) (by omega) i ((i:Int)+1) rfl (by omega) _ (zxE t i hlt);have HDR:Hid (t.drop i=t[i] :: t.drop (i+1)):=List.drop_eq_getElem_cons hlt;have h8:=za7 t i hlt;rw[HDR.out] at HSP;generalize t[i]=b at HSP h8 i1;rw[h8] at i0;clear HDR h8;cases hin:za9 zbY b with
   | false =>
    rw[zoI _ _ _ hin,zo7] at HSP;have hne:∀ n:Nat,n<256->za9 zbY (UInt8.ofNat n)=true->((b.toNat:Int) == (n:Int))=false:=fun n hn hs=>by
     rw[beq_eq_false_iff_ne];intro q;have:=(zcZ b n hn).1 q;rw[this,hs] at hin;cases hin
    have b1:((b.toNat:Int) == 123)=false:=hne 123 (by decide) (by decide);have b2:((b.toNat:Int) == 125)=false:=hne 125 (by decide) (by decide);have b3:((b.toNat:Int) == 91)=false:=hne 91 (by decide) (by decide);have b4:((b.toNat:Int) == 93)=false:=hne 93 (by decide) (by decide);clear hne hin;by_cases hg0:g=0
    ·subst hg0;have hgb:((0:Nat) == 0)=true:=rfl;rw[hgb];simp only[Bool.not_true];have HBQ:=Hd (Blk.new wr 205 #[.string (bs [b]),.string (bs []),.int .i64 (0:Nat)]);have HOA:=Hd (HOWN.out.alloc (.cells #[.string (bs [b]),.string (bs []),.int .i64 (0:Nat)] 205));have HKA:=Hd (HKR.out.trans (zaA wr (.cells #[.string (bs [b]),.string (bs []),.int .i64 (0:Nat)] 205)));go_wp2_with (at_builtin;refine zcP _ (by rfl) (.tmp 19) (.tmp 27) (by rfl) w.heap.size _ ps (by rfl) HOA.out ⟨[b],[],(0:Nat)⟩ wr.heap.size (by rfl) HBQ.out (by omega) HKA.out.size ?_;intro v5 w5 hown5 hgrow5;rw[List.length_append,List.length_singleton] at hown5;have HO5:=Hd hown5;have HK5:=Hd (HKA.out.trans' (zaO HOA.out hgrow5 HKA.out.size));obtain ⟨a5,c5,rfl,-,-,-⟩:=za1 hown5;clear hown5 hgrow5);go_roundw
     case rel=>exact ⟨f,ps ++ [Rp.mk [b] [] (0:Nat)],G,(0:Nat),i+1,rfl,rfl,by go_num,(by show World.ownsRow _ _ _ _ _ _ _;rw[List.length_append];exact HO5.out),by omega,by omega,by rw[List.length_append,List.length_singleton];omega,by omega,.inl rfl,HSP.out,HK5.out⟩
     case measure=>simp [intOf];omega
    ·have hgb:(g == 0)=false:=(by rw[beq_eq_false_iff_ne];exact hg0);obtain rfl:g=G:=hgG.resolve_left hg0;rw[hgb];simp only[Bool.not_false];have HBQ:=Hd (Blk.new wr 205 #[.string (bs [b]),.string (bs []),.int .i64 g]);have HOA:=Hd (HOWN.out.alloc (.cells #[.string (bs [b]),.string (bs []),.int .i64 g] 205));have HKA:=Hd (HKR.out.trans (zaA wr (.cells #[.string (bs [b]),.string (bs []),.int .i64 g] 205)));go_wp2_with (at_builtin;refine zcP _ (by rfl) (.tmp 19) (.tmp 27) (by rfl) w.heap.size _ ps (by rfl) HOA.out ⟨[b],[],g⟩ wr.heap.size (by rfl) HBQ.out (by omega) HKA.out.size ?_;intro v5 w5 hown5 hgrow5;rw[List.length_append,List.length_singleton] at hown5;have HO5:=Hd hown5;have HK5:=Hd (HKA.out.trans' (zaO HOA.out hgrow5 HKA.out.size));obtain ⟨a5,c5,rfl,-,-,-⟩:=za1 hown5;clear hown5 hgrow5);go_roundw
     case rel=>exact ⟨f,ps ++ [Rp.mk [b] [] g],g,g,i+1,rfl,by rw[hgb];rfl,by go_num,(by show World.ownsRow _ _ _ _ _ _ _;rw[List.length_append];exact HO5.out),by omega,by omega,by rw[List.length_append,List.length_singleton];omega,by omega,.inr rfl,HSP.out,HK5.out⟩
     case measure=>simp [intOf];omega
   | true =>
    have hb:=zcI hin;clear hin;rcases hb with rfl|rfl|rfl|rfl
    · -- a field
     have i0':∀ w,(Instr.index 9 (.string (bs t)) (.int .i64 (i:Int))).run Tryz.prog w=.ok (.int .u8 123) w:=i0;clear i0;rw[zoJ] at HSP;have HLEN:Hid ((t.drop (i+1)).length=t.length - (i+1)):=(by show _=_;rw[List.length_drop]);have HAT:Hid (∀ j,j<(t.drop (i+1)).length->at8 t (i+1+j)=at8 (t.drop (i+1)) j):=fun j _=>by
      unfold at8;rw[List.getD_eq_getElem?_getD,List.getD_eq_getElem?_getD,List.getElem?_drop]
     have HFC:=Hd (zCp (t.drop (i+1)));have HSL:Hid (∀ j,j<=(t.drop (i+1)).length->∀ w,(Instr.slice 9 (.string (bs t)) (some (.int .i64 ((i:Int)+1))) (some (.int .i64 ((i+1+j:Nat):Int))) none).run Tryz.prog w=.ok (.string (bs ((t.drop (i+1)).take j))) w):=fun j hj w=>by
      rw[List.length_drop] at hj;exact zk1 (P:=Tryz.prog) (t:=9) Tryz.underlying9 t (i+1) (i+1+j) (by omega) (by omega) ((i:Int)+1) ((i+1+j:Nat):Int) (by omega) rfl _ (by congr 1;omega) w
     have HDD:Hid (∀ j,(t.drop (i+1)).drop (j+1)=t.drop (i+1+j+1)):=fun j=>(by rw[List.drop_drop];congr 1);obtain ⟨r,HR⟩:∃ r,Hid (t.drop (i+1)=r):=⟨_,rfl⟩;rw[HR.out] at HSP HLEN HAT HFC HSL HDD;have hrl:=HLEN.out;clear HLEN HR i1;by_cases hg0:g=0
     ·subst hg0;have hgb:((0:Nat) == 0)=true:=rfl;rw[hgb];simp only[Bool.not_true];go_wp2_with fail;obtain ⟨wo,rfl⟩:∃ wo:World,wo=wr:=⟨_,rfl⟩
      go_loop [9] (fun kv=>∃ j:Nat,j<=r.length/\kv=.int .i64 ((i+1+j:Nat):Int)/\Hid (∀ m (hm:m<r.length),m<j->zdZ r[m]=true)) (fun kv=>t.length - (intOf kv).toNat)
      case atStart=>exact ⟨0,Nat.zero_le _,by go_num,fun m hm h=>by omega⟩
      case round =>
       obtain ⟨j,hj,rfl,HLW⟩:=hrel;obtain ⟨K,HK⟩:∃ K:Int,Hid (((i+1+j:Nat):Int)=K):=⟨_,rfl⟩;have hK0:0<=K:=(by rw[<- HK.out];omega);have hK1:K<=1000000:=(by rw[<- HK.out];omega);by_cases hjl:j<r.length
       ·have i2:=zb6 (P:=Tryz.prog) (t:=9) Tryz.underlying9 t (i+1+j) (by omega) ((i+1+j:Nat):Int) rfl;rw[HAT.out j hjl] at i2;have h80:=zeT r j;have h81:=zk0 r j;have HLOW:Hid (zdZ r[j]=(decide (97<=at8 r j) && decide (at8 r j<=122))):=by
         show _=_;rw[za7 r j hjl];rfl
        have HRL:=Hd (fun w=>zkT (at8 r j) w h80 h81);have hjt:K<(t.length:Int):=(by rw[<- HK.out];omega);obtain ⟨lb,HLB⟩:∃ x,Hid (zdZ r[j]=x):=⟨zdZ r[j],rfl⟩;rw[<- HLOW.out,HLB.out] at HRL;cases lb with
        | true =>
         have HNX:Hid (∀ m (hm:m<r.length),m<j+1->zdZ r[m]=true):=fun m hm hmj=>by
          rcases Nat.lt_or_ge m j with q|q
          ·exact HLW.out m hm q
          ·obtain rfl:m=j:=(by omega);exact HLB.out
         clear HLOW HLB HLW;generalize at8 r j=bj at *;rw[HK.out] at i2 ⊢;go_wp2_with fail;refine (HRL.out _).mono ?_;rintro e w2 ⟨rfl,rfl⟩;go_wp2_with fail
         go_round
         case rel=>exact ⟨j+1,by omega,by rw[<- HK.out];go_num,HNX.out⟩
         case measure=>rw[<- HK.out];simp [intOf];omega
        | false =>
         have HN:Hid (zs1 r=j):=zmA HLW.out (by omega) (fun _=>HLB.out);have HBR:Hid (at8 r j=125↔r[j]=125):=by
          show _↔_;rw[za7 r j hjl];exact zcZ _ 125 (by decide)
         rw[HN.out] at HFC;clear HLOW HN;by_cases j0:j=0
         ·have HNC:¬ _:=fun q=>absurd (HFC.out.1 q).1 (by omega);have HS:Hid (S=none):=(by show _=_;rw[HSP.out,if_neg HNC];rfl);clear HSP HNC;have e1:(K == ((i:Int)+1))=true:=(by rw[<- HK.out,j0,beq_iff_eq];omega);generalize at8 r j=bj at *;rw[HK.out] at i2 ⊢;clear j0 HLB HLW HFC HBR;go_wp2_with fail;refine (HRL.out _).mono ?_;rintro e w2 ⟨rfl,rfl⟩;go_wp2_with fail;exact H5.out HS.out _ HKR.out
         have e1:(K == ((i:Int)+1))=false:=(by rw[<- HK.out,beq_eq_false_iff_ne];omega);by_cases j20:20<j
         ·have HNC:¬ _:=fun q=>absurd (HFC.out.1 q).2.1 (by omega);have HS:Hid (S=none):=(by show _=_;rw[HSP.out,if_neg HNC];rfl);clear HSP HNC;have e2:(i:Int)+21<K:=(by rw[<- HK.out];omega);generalize at8 r j=bj at *;rw[HK.out] at i2 ⊢;clear j0 j20 HLB HLW HFC HBR;go_wp2_with fail;refine (HRL.out _).mono ?_;rintro e w2 ⟨rfl,rfl⟩;go_wp2_with fail;exact H5.out HS.out _ HKR.out
         have e2:¬ (i:Int)+21<K:=(by rw[<- HK.out];omega);have e3:(K == (t.length:Int))=false:=(by rw[beq_eq_false_iff_ne];omega);by_cases hbr:at8 r j=125
         ·have HC:=HFC.out.2 ⟨by omega,by omega,hjl,HBR.out.1 hbr⟩;have HB:Hid (zaI 125 r=j):=zmB (fun m hm h=>zmC (HLW.out m hm h)) hjl (HBR.out.1 hbr);rw[if_pos HC,zo7,HB.out,HDD.out j] at HSP;have i3:=HSL.out j hj;rw[hbr] at i2 HRL;clear HC HB HBR HLB HLW HFC j0 j20 hbr;generalize at8 r j=bj at *;generalize r.take j=X at *;rw[HK.out] at i2 i3 ⊢;go_wp2_with fail;refine (HRL.out _).mono ?_;rintro e w2 ⟨rfl,rfl⟩;have HBQ:=Hd (Blk.new wo 205 #[.string (bs []),.string (bs X),.int .i64 (0:Nat)]);have HOA:=Hd (HOWN.out.alloc (.cells #[.string (bs []),.string (bs X),.int .i64 (0:Nat)] 205));have HKA:=Hd (HKR.out.trans (zaA wo (.cells #[.string (bs []),.string (bs X),.int .i64 (0:Nat)] 205)));go_wp2_with (at_builtin;refine zcP _ (by rfl) (.tmp 82) (.tmp 90) (by rfl) w.heap.size _ ps (by rfl) HOA.out ⟨[],X,(0:Nat)⟩ wo.heap.size (by rfl) HBQ.out (by omega) HKA.out.size ?_;intro v5 w5 hown5 hgrow5;rw[List.length_append,List.length_singleton] at hown5;have HO5:=Hd hown5;have HK5:=Hd (HKA.out.trans' (zaO HOA.out hgrow5 HKA.out.size));obtain ⟨a5,c5,rfl,-,-,-⟩:=za1 hown5;clear hown5 hgrow5);go_roundw
          case rel=>exact ⟨f,ps ++ [Rp.mk [] X (0:Nat)],G,(0:Nat),i+1+j+1,rfl,rfl,by rw[<- HK.out];go_num,(by show World.ownsRow _ _ _ _ _ _ _;rw[List.length_append];exact HO5.out),by omega,by omega,by rw[List.length_append,List.length_singleton];omega,by omega,.inl rfl,HSP.out,HK5.out⟩
          case measure=>rw[<- HK.out];simp [intOf];omega
         ·have HNC:¬ _:=fun q=>by
           obtain ⟨_,_,h1,h2⟩:=HFC.out.1 q;exact hbr (HBR.out.2 h2)
          have HS:Hid (S=none):=(by show _=_;rw[HSP.out,if_neg HNC];rfl);clear HSP HNC;have e4:(at8 r j == 125)=false:=(by simpa using hbr);have e5:(at8 r j != 125)=true:=(by rw[bne,e4];rfl);clear j0 j20 hbr HLB HLW HFC HBR;generalize at8 r j=bj at *;rw[HK.out] at i2 ⊢;go_wp2_with fail;refine (HRL.out _).mono ?_;rintro e w2 ⟨rfl,rfl⟩;go_wp2_with fail;exact H5.out HS.out _ HKR.out
       ·have HN:Hid (zs1 r=j):=zmA HLW.out (by omega) (fun h=>absurd h hjl);rw[HN.out] at HFC;have HNC:¬ _:=fun q=>by
         obtain ⟨_,_,h1,_⟩:=HFC.out.1 q;exact hjl h1
        have HS:Hid (S=none):=(by show _=_;rw[HSP.out,if_neg HNC];rfl);clear HSP HNC;have e3:(K == (t.length:Int))=true:=(by rw[<- HK.out,beq_iff_eq];omega);have e0:¬ K<(t.length:Int):=(by rw[<- HK.out];omega);have hjj:j=r.length:=(by omega);clear HFC HLW HN;by_cases j0:j=0
        ·have e1:(K == ((i:Int)+1))=true:=(by rw[<- HK.out,j0,beq_iff_eq];omega);clear j0 hjj;rw[HK.out];go_wp2_with fail;exact H5.out HS.out _ HKR.out
        have e1:(K == ((i:Int)+1))=false:=(by rw[<- HK.out,beq_eq_false_iff_ne];omega);by_cases j20:20<j
        ·have e2:(i:Int)+21<K:=(by rw[<- HK.out];omega);clear j0 hjj j20;rw[HK.out];go_wp2_with fail;exact H5.out HS.out _ HKR.out
        have e2:¬ (i:Int)+21<K:=(by rw[<- HK.out];omega);clear j0 hjj j20;rw[HK.out];go_wp2_with fail;exact H5.out HS.out _ HKR.out
     ·have hgb:(g == 0)=false:=(by rw[beq_eq_false_iff_ne];exact hg0);obtain rfl:g=G:=hgG.resolve_left hg0;rw[hgb];simp only[Bool.not_false];go_wp2_with fail;obtain ⟨wo,rfl⟩:∃ wo:World,wo=wr:=⟨_,rfl⟩
      go_loop [9] (fun kv=>∃ j:Nat,j<=r.length/\kv=.int .i64 ((i+1+j:Nat):Int)/\Hid (∀ m (hm:m<r.length),m<j->zdZ r[m]=true)) (fun kv=>t.length - (intOf kv).toNat)
      case atStart=>exact ⟨0,Nat.zero_le _,by go_num,fun m hm h=>by omega⟩
      case round =>
       obtain ⟨j,hj,rfl,HLW⟩:=hrel;obtain ⟨K,HK⟩:∃ K:Int,Hid (((i+1+j:Nat):Int)=K):=⟨_,rfl⟩;have hK0:0<=K:=(by rw[<- HK.out];omega);have hK1:K<=1000000:=(by rw[<- HK.out];omega);by_cases hjl:j<r.length
       ·have i2:=zb6 (P:=Tryz.prog) (t:=9) Tryz.underlying9 t (i+1+j) (by omega) ((i+1+j:Nat):Int) rfl;rw[HAT.out j hjl] at i2;have h80:=zeT r j;have h81:=zk0 r j;have HLOW:Hid (zdZ r[j]=(decide (97<=at8 r j) && decide (at8 r j<=122))):=by
         show _=_;rw[za7 r j hjl];rfl
        have HRL:=Hd (fun w=>zkT (at8 r j) w h80 h81);have hjt:K<(t.length:Int):=(by rw[<- HK.out];omega);obtain ⟨lb,HLB⟩:∃ x,Hid (zdZ r[j]=x):=⟨zdZ r[j],rfl⟩;rw[<- HLOW.out,HLB.out] at HRL;cases lb with
        | true =>
         have HNX:Hid (∀ m (hm:m<r.length),m<j+1->zdZ r[m]=true):=fun m hm hmj=>by
          rcases Nat.lt_or_ge m j with q|q
          ·exact HLW.out m hm q
          ·obtain rfl:m=j:=(by omega);exact HLB.out
         clear HLOW HLB HLW;generalize at8 r j=bj at *;rw[HK.out] at i2 ⊢;go_wp2_with fail;refine (HRL.out _).mono ?_;rintro e w2 ⟨rfl,rfl⟩;go_wp2_with fail
         go_round
         case rel=>exact ⟨j+1,by omega,by rw[<- HK.out];go_num,HNX.out⟩
         case measure=>rw[<- HK.out];simp [intOf];omega
        | false =>
         have HN:Hid (zs1 r=j):=zmA HLW.out (by omega) (fun _=>HLB.out);have HBR:Hid (at8 r j=125↔r[j]=125):=by
          show _↔_;rw[za7 r j hjl];exact zcZ _ 125 (by decide)
         rw[HN.out] at HFC;clear HLOW HN;by_cases j0:j=0
         ·have HNC:¬ _:=fun q=>absurd (HFC.out.1 q).1 (by omega);have HS:Hid (S=none):=(by show _=_;rw[HSP.out,if_neg HNC];rfl);clear HSP HNC;have e1:(K == ((i:Int)+1))=true:=(by rw[<- HK.out,j0,beq_iff_eq];omega);generalize at8 r j=bj at *;rw[HK.out] at i2 ⊢;clear j0 HLB HLW HFC HBR;go_wp2_with fail;refine (HRL.out _).mono ?_;rintro e w2 ⟨rfl,rfl⟩;go_wp2_with fail;exact H5.out HS.out _ HKR.out
         have e1:(K == ((i:Int)+1))=false:=(by rw[<- HK.out,beq_eq_false_iff_ne];omega);by_cases j20:20<j
         ·have HNC:¬ _:=fun q=>absurd (HFC.out.1 q).2.1 (by omega);have HS:Hid (S=none):=(by show _=_;rw[HSP.out,if_neg HNC];rfl);clear HSP HNC;have e2:(i:Int)+21<K:=(by rw[<- HK.out];omega);generalize at8 r j=bj at *;rw[HK.out] at i2 ⊢;clear j0 j20 HLB HLW HFC HBR;go_wp2_with fail;refine (HRL.out _).mono ?_;rintro e w2 ⟨rfl,rfl⟩;go_wp2_with fail;exact H5.out HS.out _ HKR.out
         have e2:¬ (i:Int)+21<K:=(by rw[<- HK.out];omega);have e3:(K == (t.length:Int))=false:=(by rw[beq_eq_false_iff_ne];omega);by_cases hbr:at8 r j=125
         ·have HC:=HFC.out.2 ⟨by omega,by omega,hjl,HBR.out.1 hbr⟩;have HB:Hid (zaI 125 r=j):=zmB (fun m hm h=>zmC (HLW.out m hm h)) hjl (HBR.out.1 hbr);rw[if_pos HC,zo7,HB.out,HDD.out j] at HSP;have i3:=HSL.out j hj;rw[hbr] at i2 HRL;clear HC HB HBR HLB HLW HFC j0 j20 hbr;generalize at8 r j=bj at *;generalize r.take j=X at *;rw[HK.out] at i2 i3 ⊢;go_wp2_with fail;refine (HRL.out _).mono ?_;rintro e w2 ⟨rfl,rfl⟩;have HBQ:=Hd (Blk.new wo 205 #[.string (bs []),.string (bs X),.int .i64 g]);have HOA:=Hd (HOWN.out.alloc (.cells #[.string (bs []),.string (bs X),.int .i64 g] 205));have HKA:=Hd (HKR.out.trans (zaA wo (.cells #[.string (bs []),.string (bs X),.int .i64 g] 205)));go_wp2_with (at_builtin;refine zcP _ (by rfl) (.tmp 82) (.tmp 90) (by rfl) w.heap.size _ ps (by rfl) HOA.out ⟨[],X,g⟩ wo.heap.size (by rfl) HBQ.out (by omega) HKA.out.size ?_;intro v5 w5 hown5 hgrow5;rw[List.length_append,List.length_singleton] at hown5;have HO5:=Hd hown5;have HK5:=Hd (HKA.out.trans' (zaO HOA.out hgrow5 HKA.out.size));obtain ⟨a5,c5,rfl,-,-,-⟩:=za1 hown5;clear hown5 hgrow5);go_roundw
          case rel=>exact ⟨f,ps ++ [Rp.mk [] X g],g,g,i+1+j+1,rfl,by rw[hgb];rfl,by rw[<- HK.out];go_num,(by show World.ownsRow _ _ _ _ _ _ _;rw[List.length_append];exact HO5.out),by omega,by omega,by rw[List.length_append,List.length_singleton];omega,by omega,.inr rfl,HSP.out,HK5.out⟩
          case measure=>rw[<- HK.out];simp [intOf];omega
         ·have HNC:¬ _:=fun q=>by
           obtain ⟨_,_,h1,h2⟩:=HFC.out.1 q;exact hbr (HBR.out.2 h2)
          have HS:Hid (S=none):=(by show _=_;rw[HSP.out,if_neg HNC];rfl);clear HSP HNC;have e4:(at8 r j == 125)=false:=(by simpa using hbr);have e5:(at8 r j != 125)=true:=(by rw[bne,e4];rfl);clear j0 j20 hbr HLB HLW HFC HBR;generalize at8 r j=bj at *;rw[HK.out] at i2 ⊢;go_wp2_with fail;refine (HRL.out _).mono ?_;rintro e w2 ⟨rfl,rfl⟩;go_wp2_with fail;exact H5.out HS.out _ HKR.out
       ·have HN:Hid (zs1 r=j):=zmA HLW.out (by omega) (fun h=>absurd h hjl);rw[HN.out] at HFC;have HNC:¬ _:=fun q=>by
         obtain ⟨_,_,h1,_⟩:=HFC.out.1 q;exact hjl h1
        have HS:Hid (S=none):=(by show _=_;rw[HSP.out,if_neg HNC];rfl);clear HSP HNC;have e3:(K == (t.length:Int))=true:=(by rw[<- HK.out,beq_iff_eq];omega);have e0:¬ K<(t.length:Int):=(by rw[<- HK.out];omega);have hjj:j=r.length:=(by omega);clear HFC HLW HN;by_cases j0:j=0
        ·have e1:(K == ((i:Int)+1))=true:=(by rw[<- HK.out,j0,beq_iff_eq];omega);clear j0 hjj;rw[HK.out];go_wp2_with fail;exact H5.out HS.out _ HKR.out
        have e1:(K == ((i:Int)+1))=false:=(by rw[<- HK.out,beq_eq_false_iff_ne];omega);by_cases j20:20<j
        ·have e2:(i:Int)+21<K:=(by rw[<- HK.out];omega);clear j0 hjj j20;rw[HK.out];go_wp2_with fail;exact H5.out HS.out _ HKR.out
        have e2:¬ (i:Int)+21<K:=(by rw[<- HK.out];omega);clear j0 hjj j20;rw[HK.out];go_wp2_with fail;exact H5.out HS.out _ HKR.out
    · -- a closing brace
     have i0':∀ w,(Instr.index 9 (.string (bs t)) (.int .i64 (i:Int))).run Tryz.prog w=.ok (.int .u8 125) w:=i0;rw[zoK] at HSP;have HS:Hid (S=none):=HSP.out;clear i0;by_cases hg0:g=0
     ·have hgb:(g == 0)=true:=(by rw[hg0];rfl);rw[hgb];go_wp2_with fail;exact H5.out HS.out _ HKR.out
     ·have hgb:(g == 0)=false:=(by rw[beq_eq_false_iff_ne];exact hg0);rw[hgb];go_wp2_with fail;exact H5.out HS.out _ HKR.out
    · -- a group begins
     have i0':∀ w,(Instr.index 9 (.string (bs t)) (.int .i64 (i:Int))).run Tryz.prog w=.ok (.int .u8 91) w:=i0;clear i0;rw[zlN] at HSP;by_cases hg0:g=0
     ·rw[if_pos hg0] at HSP;subst hg0;have hgb:((0:Nat) == 0)=true:=rfl;rw[hgb];go_wp2_with fail;go_roundw
      case rel=>exact ⟨f,ps,G+1,G+1,i+1,by go_num,rfl,by go_num,HOWN.out,by omega,by omega,by omega,by omega,.inr rfl,HSP.out,HKR.out⟩
      case measure=>simp [intOf];omega
     ·rw[if_neg hg0] at HSP;have HS:Hid (S=none):=HSP.out;have hgb:(g == 0)=false:=(by rw[beq_eq_false_iff_ne];exact hg0);rw[hgb];go_wp2_with fail;exact H5.out HS.out _ HKR.out
    · -- a group ends
     have i0':∀ w,(Instr.index 9 (.string (bs t)) (.int .i64 (i:Int))).run Tryz.prog w=.ok (.int .u8 93) w:=i0;clear i0;rw[zlO] at HSP;by_cases hg0:g=0
     ·rw[if_pos hg0] at HSP;have HS:Hid (S=none):=HSP.out;have hgb:(g == 0)=true:=(by rw[hg0];rfl);rw[hgb];go_wp2_with fail;exact H5.out HS.out _ HKR.out
     ·rw[if_neg hg0] at HSP;have hgb:(g == 0)=false:=(by rw[beq_eq_false_iff_ne];exact hg0);rw[hgb];go_wp2_with fail;go_roundw
      case rel=>exact ⟨f,ps,G,0,i+1,rfl,rfl,by go_num,HOWN.out,by omega,by omega,by omega,by omega,.inl rfl,HSP.out,HKR.out⟩
      case measure=>simp [intOf];omega
  ·have HDN:Hid (t.drop i=[]):=(by show _=_;rw[List.drop_eq_nil_iff];omega);rw[HDN.out,zkK] at HSP;by_cases hg0:g=0
   ·rw[if_pos hg0] at HSP;have HS:Hid (S=some ps):=(by show _=_;rw[HSP.out];simp);have HP:=Hd (Rps.own HOWN.out);have hgb:(g == 0)=true:=(by rw[hg0];rfl);rw[hgb];go_wp2_with fail;exact HOK.out ps HS.out _ _ HP.out HKR.out
   ·rw[if_neg hg0] at HSP;have HS:Hid (S=none):=(by show _=_;rw[HSP.out];rfl);have hgb:(g == 0)=false:=(by rw[beq_eq_false_iff_ne];exact hg0);rw[hgb];obtain ⟨a5,c5,rfl,-,-,-⟩:=za1 HOWN.out;go_wp2_with fail;exact H6.out HS.out _ _ rfl HKR.out
end Go.Proofs.YtmcoomlkbgiboaaGreatDoor
