/- Suffixes that tell citations apart, in plain Lean. Conditions: each text has a hole. -/
import Derived.Test.YtmcoomlkbgiboaaGreatDoorK32
import Derived.Test.YtmcoomlkbgiboaaGreatDoorK28
import Derived.Test.YtmcoomlkbgiboaaGreatDoorK29
import Derived.Test.YtmcoomlkbgiboaaGreatDoorK05
import Derived.Test.YtmcoomlkbgiboaaGreatDoorK24
import Derived.Test.YtmcoomlkbgiboaaGreatDoorK27
import Derived.Test.YtmcoomlkbgiboaaGreatDoorK26
import Derived.Test.YtmcoomlkbgiboaaGreatDoorK23
import Derived.Test.YtmcoomlkbgiboaaGreatDoorK06
import Derived.Test.YtmcoomlkbgiboaaGreatDoorK07
import Derived.Test.YtmcoomlkbgiboaaGreatDoorK15
import Derived.Test.YtmcoomlkbgiboaaGreatDoorK20
import Derived.Test.YtmcoomlkbgiboaaGreatDoorK21
import Derived.Test.YtmcoomlkbgiboaaGreatDoorK02
import Derived.Test.YtmcoomlkbgiboaaGreatDoorK17
import Derived.Test.YtmcoomlkbgiboaaGreatDoorK25
import Derived.Test.YtmcoomlkbgiboaaGreatDoorK03
import Derived.Deep.RegionHeld3
import Derived.BigQuiet

set_option linter.all false
namespace Go.Proofs.YtmcoomlkbgiboaaGreatDoor
open Go.RowKit

/-- How a source is cited: without a suffix, and with one in the holes. -/
abbrev CitX:=Bs × Tok
def citN (x:CitX) (n:Nat):Bs:=if n=0 then x.1 else tokS (letL n) x.2
theorem citN_pos {x:CitX} {n:Nat} (h:0<n):citN x n=tokS (letL n) x.2:=if_neg (by omega)
theorem citN_inj {x:CitX} (hx:none∈x.2) {m n:Nat} (hm:0<m) (hn:0<n) (h:citN x m=citN x n):m=n:=by
 rw [citN_pos hm,citN_pos hn] at h
 exact letL_inj (tok_inj hx h)
/-- The first number behind n whose citation is not taken. -/
def frsN (taken:List Bs) (x:CitX):Nat→Nat→Nat
 | 0,n=>n+1
 | f+1,n=>if taken.contains (citN x (n+1))=true then frsN taken x f (n+1) else n+1
theorem pig_cit {x:CitX} (hx:none∈x.2):∀ (m:Nat) (taken:List Bs) (a:Nat),0<a→(∀ j,j<m→citN x (a+j)∈taken)→m≤taken.length
 | 0,_,_,_,_=>Nat.zero_le _
 | m+1,taken,a,ha,h=>by
  have hm:=h m (Nat.lt_succ_self m)
  have h1:=pig_cit hx m (taken.filter fun t=>t != citN x (a+m)) a ha (fun j hj=>by
   refine List.mem_filter.2 ⟨h j (by omega),?_⟩
   rw [bne_iff_ne]
   intro e
   have:=citN_inj hx (by omega) (by omega) e
   omega)
  have h2:(taken.filter fun t=>t != citN x (a+m)).length<taken.length:=by
   refine Nat.lt_of_le_of_ne (List.length_filter_le _ _) (fun e=>?_)
   have:=List.length_filter_eq_length_iff.1 e _ hm
   simp at this
  omega
theorem frsN_spec {x:CitX} (hx:none∈x.2) (taken:List Bs):∀ (f n a:Nat),0<a→a≤n+1→(∀ j,a≤j→j≤n→citN x j∈taken)→taken.length≤f+(n+1 - a) →
  n<frsN taken x f n∧citN x (frsN taken x f n) ∉ taken∧∀ j,a≤j→j<frsN taken x f n→citN x j∈taken
 | 0,n,a,ha,han,hall,hf=>by
  show n<n+1∧citN x (n+1) ∉ taken∧∀ j,a≤j→j<n+1→citN x j∈taken
  refine ⟨by omega,fun q=>?_,fun j h1 h2=>hall j h1 (by omega)⟩
  have:=pig_cit hx (n+2 - a) taken a ha (fun j hj=>by
   by_cases e:a+j=n+1
   ·rw [e]; exact q
   ·exact hall _ (by omega) (by omega))
  omega
 | f+1,n,a,ha,han,hall,hf=>by
  show n<(if taken.contains (citN x (n+1))=true then frsN taken x f (n+1) else n+1)∧citN x (if taken.contains (citN x (n+1))=true then frsN taken x f (n+1) else n+1) ∉ taken∧∀ j,a≤j→j<(if taken.contains (citN x (n+1))=true then frsN taken x f (n+1) else n+1)→citN x j∈taken
  by_cases q:taken.contains (citN x (n+1))=true
  ·rw [if_pos q]
   have hm:citN x (n+1)∈taken:=by simpa using q
   obtain ⟨h1,h2,h3⟩:=frsN_spec hx taken f (n+1) a ha (by omega) (fun j k1 k2=>by
    by_cases e:j=n+1
    ·rw [e]; exact hm
    ·exact hall j k1 (by omega)) (by omega)
   exact ⟨by omega,h2,h3⟩
  ·rw [if_neg q]
   exact ⟨by omega,by simpa using q,fun j h1 h2=>hall j h1 (by omega)⟩
/-- Is a source cited without a suffix as no other one? -/
def aloneB (ps:List Bs) (t:Bs):Bool:=ps.count t == 1
def shpX (x:CitX):Bs × Bs:=(citN x 1,citN x 2)
theorem letL_one:letL 1=[97]:=by unfold letL; rw [letR_pos (by omega)]; rw [show (1 - 1) / 26=0 from rfl,letR_zero]; rfl
theorem letL_two:letL 2=[98]:=by unfold letL; rw [letR_pos (by omega)]; rw [show (2 - 1) / 26=0 from rfl,letR_zero]; rfl
theorem shp_tok {x y:CitX} (h:shpX x=shpX y):x.2=y.2:=by
 have h1:=congrArg Prod.fst h
 have h2:=congrArg Prod.snd h
 simp only [shpX,citN_pos (show 0<1 by omega),citN_pos (show 0<2 by omega),letL_one,letL_two] at h1 h2
 exact tok_two (by decide) _ _ h1 h2
structure SufS where
 taken:List Bs
 next:Bs × Bs→Nat
 out:List Nat
def sufStep (ps:List Bs) (st:SufS) (x:CitX):SufS :=
 if aloneB ps x.1=true then { st with out:=st.out ++ [0] }
 else ⟨st.taken ++ [citN x (frsN st.taken x st.taken.length (st.next (shpX x)))],fun k=>if k=shpX x then frsN st.taken x st.taken.length (st.next (shpX x)) else st.next k,st.out ++ [frsN st.taken x st.taken.length (st.next (shpX x))]⟩
def suf0 (ps:List Bs):SufS:=⟨ps.filter (aloneB ps),fun _=>0,[]⟩
def sufAll (ps:List Bs) (xs:List CitX):SufS:=xs.foldl (sufStep ps) (suf0 ps)
/-- The numbers of the suffixes; 0: none. -/
def sufN (xs:List CitX):List Nat:=(sufAll (xs.map (·.1)) xs).out
theorem sufAll_snoc (ps:List Bs) (xs:List CitX) (x:CitX):sufAll ps (xs ++ [x])=sufStep ps (sufAll ps xs) x:=by unfold sufAll; rw [List.foldl_append]; rfl
/-- What has been cited. -/
def citR (xs:List CitX) (out:List Nat):List Bs:=List.zipWith citN xs out
/-- Between the sources. -/
structure SufI (ps:List Bs) (done:List CitX) (st:SufS):Prop where
 len:st.out.length=done.length
 tk:∀ t,t∈st.taken↔(t∈ps∧aloneB ps t=true)∨t∈citR done st.out
 nx:∀ (x:CitX) (n:Nat),none∈x.2→0<n→n≤st.next (shpX x)→citN x n∈st.taken
 ne:∀ (i:Nat) (x:CitX),done[i]? = some x→aloneB ps x.1=true→st.out[i]? = some 0
 nd:(citR done st.out).Nodup
 al:∀ (i:Nat) (x:CitX) (n:Nat),done[i]? = some x→st.out[i]? = some n→aloneB ps (citN x n)=true→citN x n∈ps→n=0∧aloneB ps x.1=true
 tl:st.taken.length≤(ps.filter (aloneB ps)).length+done.length
theorem citR_snoc {done:List CitX} {out:List Nat} (h:out.length=done.length) (x:CitX) (n:Nat):citR (done ++ [x]) (out ++ [n])=citR done out ++ [citN x n]:=by
 unfold citR
 rw [List.zipWith_append h.symm]; rfl
theorem citR_mem {done:List CitX} {out:List Nat} {t:Bs} (h:t∈citR done out):∃ (i:Nat) (x:CitX) (n:Nat),done[i]? = some x∧out[i]? = some n∧citN x n=t:=by
 obtain ⟨i,hi⟩:=List.getElem?_of_mem h
 unfold citR at hi
 rw [List.getElem?_zipWith] at hi
 cases h1:done[i]? with
 | none=>rw [h1] at hi; simp at hi
 | some x =>
  cases h2:out[i]? with
  | none=>rw [h1,h2] at hi; simp at hi
  | some n=>rw [h1,h2] at hi; exact ⟨i,x,n,h1,h2,by simpa using hi⟩
theorem alone_once {done rest:List CitX} {x y:CitX} {j:Nat} (hy:done[j]? = some y) (h:aloneB ((done ++ x :: rest).map (·.1)) x.1=true):y.1≠x.1:=by
 intro e
 unfold aloneB at h
 rw [List.map_append,List.map_cons,List.count_append,List.count_cons_self,beq_iff_eq] at h
 have:0<(done.map (·.1)).count x.1:=List.count_pos_iff.2 (List.mem_map.2 ⟨y,List.mem_of_getElem? hy,e⟩)
 omega
theorem SufI.zero (ps:List Bs):SufI ps [] (suf0 ps):=by
 refine ⟨rfl,fun t=>?_,fun x n _ h1 h2=>?_,fun i x h=>by simp at h,List.nodup_nil,fun i x n h=>by simp at h,Nat.le_refl _⟩
 ·show t∈ps.filter (aloneB ps)↔_∨t∈[]
  rw [List.mem_filter]; simp
 ·have h2':n≤0:=h2
  omega
theorem SufI.old {ps:List Bs} {done:List CitX} {st:SufS} (h:SufI ps done st) {x:CitX} (hx:none∈x.2):st.next (shpX x)<frsN st.taken x st.taken.length (st.next (shpX x))∧citN x (frsN st.taken x st.taken.length (st.next (shpX x))) ∉ st.taken∧∀ j,1≤j→j<frsN st.taken x st.taken.length (st.next (shpX x))→citN x j∈st.taken :=
 frsN_spec hx st.taken st.taken.length (st.next (shpX x)) 1 (by omega) (by omega) (fun j h1 h2=>h.nx x j hx (by omega) h2) (by omega)
theorem alone_new {done rest:List CitX} {st:SufS} {x:CitX} (h:SufI ((done ++ x :: rest).map (·.1)) done st) (ha:aloneB ((done ++ x :: rest).map (·.1)) x.1=true):x.1 ∉ citR done st.out:=by
 intro q
 obtain ⟨i,y,n,h1,h2,h3⟩:=citR_mem q
 obtain ⟨rfl,-⟩:=h.al i y n h1 h2 (by rw [h3]; exact ha) (by rw [h3]; simp)
 exact alone_once h1 ha h3
theorem SufI.step {done rest:List CitX} {st:SufS} {x:CitX} (h:SufI ((done ++ x :: rest).map (·.1)) done st) (hx:none∈x.2):SufI ((done ++ x :: rest).map (·.1)) (done ++ [x]) (sufStep ((done ++ x :: rest).map (·.1)) st x):=by
 obtain ⟨ps,HP⟩:∃ ps,(done ++ x :: rest).map (·.1)=ps:=⟨_,rfl⟩
 have hmem:x.1∈ps:=by rw [← HP]; simp
 unfold sufStep
 by_cases ha:aloneB ps x.1=true
 ·have hnew:x.1 ∉ citR done st.out:=by rw [← HP] at ha; exact alone_new h ha
  rw [HP] at h ⊢
  rw [if_pos ha]
  have e:=citR_snoc h.len x 0
  have e0:citN x 0=x.1:=rfl
  rw [e0] at e
  refine ⟨by simp [h.len],fun t=>?_,h.nx,fun i y hy hya=>?_,?_,fun i y n hy hn ht htp=>?_,by have:=h.tl; simp; omega⟩
  ·show t∈st.taken↔_∨t∈citR (done ++ [x]) (st.out ++ [0])
   rw [e,h.tk t,List.mem_append,List.mem_singleton]
   constructor
   ·rintro (q | q)
    ·exact .inl q
    ·exact .inr (.inl q)
   ·rintro (q | q | rfl)
    ·exact .inl q
    ·exact .inr q
    ·exact .inl ⟨hmem,ha⟩
  ·show (st.out ++ [0])[i]? = some 0
   rcases Nat.lt_or_ge i done.length with q | q
   ·rw [List.getElem?_append_left q] at hy
    rw [List.getElem?_append_left (by rw [h.len]; exact q)]
    exact h.ne i y hy hya
   ·have hi:i=done.length:=by have:=(List.getElem?_eq_some_iff.1 hy).1; simp at this; omega
    subst hi
    rw [← h.len]; simp
  ·show (citR (done ++ [x]) (st.out ++ [0])).Nodup
   rw [e,List.nodup_append]
   exact ⟨h.nd,by simp,fun a ha' b hb=>by rw [List.mem_singleton.1 hb]; exact fun q=>hnew (q ▸ ha')⟩
  ·have hn':(st.out ++ [0])[i]? = some n:=hn
   rcases Nat.lt_or_ge i done.length with q | q
   ·rw [List.getElem?_append_left q] at hy
    rw [List.getElem?_append_left (by rw [h.len]; exact q)] at hn'
    exact h.al i y n hy hn' ht htp
   ·have hi:i=done.length:=by have:=(List.getElem?_eq_some_iff.1 hy).1; simp at this; omega
    subst hi
    have hy':x=y:=by simpa using hy
    subst hy'
    rw [← h.len] at hn'
    have hn2:0=n:=by simpa using hn'
    exact ⟨hn2.symm,ha⟩
 ·rw [HP] at h ⊢
  rw [if_neg ha]
  obtain ⟨r1,r2,r3⟩:=h.old hx
  generalize frsN st.taken x st.taken.length (st.next (shpX x))=r at *
  have e:=citR_snoc h.len x r
  refine ⟨by simp [h.len],fun t=>?_,fun y n hy h1 h2=>?_,fun i y hy hya=>?_,?_,fun i y n hy hn ht htp=>?_,by have:=h.tl; simp; omega⟩
  ·show t∈st.taken ++ [citN x r]↔_∨t∈citR (done ++ [x]) (st.out ++ [r])
   rw [e,List.mem_append,List.mem_append,List.mem_singleton,h.tk t]
   constructor
   ·rintro ((q | q) | q)
    ·exact .inl q
    ·exact .inr (.inl q)
    ·exact .inr (.inr q)
   ·rintro (q | q | q)
    ·exact .inl (.inl q)
    ·exact .inl (.inr q)
    ·exact .inr q
  ·show citN y n∈st.taken ++ [citN x r]
   have h2':n≤if shpX y=shpX x then r else st.next (shpX y):=h2
   by_cases q:shpX y=shpX x
   ·rw [if_pos q] at h2'
    have ec:citN y n=citN x n:=by rw [citN_pos h1,citN_pos h1,shp_tok q]
    rw [ec]
    rcases Nat.lt_or_ge n r with k | k
    ·exact List.mem_append.2 (.inl (r3 n h1 k))
    ·rw [show n=r by omega]; simp
   ·rw [if_neg q] at h2'
    exact List.mem_append.2 (.inl (h.nx y n hy h1 h2'))
  ·show (st.out ++ [r])[i]? = some 0
   rcases Nat.lt_or_ge i done.length with q | q
   ·rw [List.getElem?_append_left q] at hy
    rw [List.getElem?_append_left (by rw [h.len]; exact q)]
    exact h.ne i y hy hya
   ·have hi:i=done.length:=by have:=(List.getElem?_eq_some_iff.1 hy).1; simp at this; omega
    subst hi
    have hy':x=y:=by simpa using hy
    subst hy'
    exact absurd hya ha
  ·show (citR (done ++ [x]) (st.out ++ [r])).Nodup
   rw [e,List.nodup_append]
   exact ⟨h.nd,by simp,fun a ha' b hb=>by rw [List.mem_singleton.1 hb]; exact fun q=>r2 ((h.tk _).2 (.inr (q ▸ ha')))⟩
  ·have hn':(st.out ++ [r])[i]? = some n:=hn
   rcases Nat.lt_or_ge i done.length with q | q
   ·rw [List.getElem?_append_left q] at hy
    rw [List.getElem?_append_left (by rw [h.len]; exact q)] at hn'
    exact h.al i y n hy hn' ht htp
   ·have hi:i=done.length:=by have:=(List.getElem?_eq_some_iff.1 hy).1; simp at this; omega
    subst hi
    have hy':x=y:=by simpa using hy
    subst hy'
    rw [← h.len] at hn'
    have hn2:r=n:=by simpa using hn'
    subst hn2
    exact absurd ((h.tk _).2 (.inl ⟨htp,ht⟩)) r2
theorem sufI_all (xs:List CitX) (hx:∀ x∈xs,none∈x.2):∀ (done rest:List CitX),done ++ rest=xs→SufI (xs.map (·.1)) done (sufAll (xs.map (·.1)) done):=by
 have key:∀ (n:Nat) (done rest:List CitX),done.length=n→done ++ rest=xs→SufI (xs.map (·.1)) done (sufAll (xs.map (·.1)) done):=by
  intro n
  induction n with
  | zero =>
   intro done rest h1 _
   obtain rfl:=List.length_eq_zero_iff.1 h1
   exact .zero _
  | succ n ih =>
   intro done rest h1 h2
   obtain ⟨o,y,rfl⟩:∃ o y,done=o ++ [y]:=⟨done.dropLast,done.getLast (by intro q; subst q; cases h1),(List.dropLast_concat_getLast _).symm⟩
   have h3:o ++ y :: rest=xs:=by rw [← h2]; simp
   have h4:=ih o (y :: rest) (by simpa using h1) h3
   rw [sufAll_snoc]
   subst h3
   exact h4.step (hx y (by simp))
 intro done rest h
 exact key _ done rest rfl h
end Go.Proofs.YtmcoomlkbgiboaaGreatDoor

/- Fill of style. Conditions: lengths. -/
set_option linter.all false
namespace Go.Proofs.YtmcoomlkbgiboaaGreatDoor
open Go.RowKit

theorem bld_kept {T e:TypeId} {B b:Nat} {cs:List Value} {w w':World} (h:Lib.IsBuilder T e B b cs w) (k:Kept w w'):Lib.IsBuilder T e B b cs w':=by
 have hp:∀ p,Lib.BuilderAt T e B b p cs w→Lib.BuilderAt T e B b p cs w':=fun p h=>by
  obtain ⟨h1,v,h2,h3,h4⟩:=h
  have hlt:b<w.heap.size:=by
   rcases Nat.lt_or_ge b w.heap.size with q | q
   ·exact q
   ·rw [Array.getElem?_eq_none q] at h2; cases h2
  exact ⟨h1,v,by rw [k.block b hlt]; exact h2,own_kept h3 k,h4⟩
 exact h.imp (hp _) (hp _)
theorem itoa_len (n:Int) (h0 : -9223372036854775808≤n) (h1:n≤9223372036854775807):(Lib.itoa n).length≤21:=by
 have hd:∀ (k u:Nat),u<10 ^ k→1≤k→(Lib.decDigits u).length≤k:=by
  intro k
  induction k with
  | zero=>intro u _ h; omega
  | succ k ih =>
   intro u hu _
   by_cases q:u<10
   ·rw [Lib.decDigits_one q]; simp
   ·rw [decDigits_ten _ q,List.length_append,List.length_singleton]
    have hk:1≤k:=by
     rcases Nat.eq_zero_or_pos k with r | r
     ·subst r; simp at hu; omega
     ·exact r
    have:=ih (u / 10) (by rw [Nat.pow_succ] at hu; omega) hk
    omega
 have h20:(10:Nat) ^ 20=100000000000000000000:=by decide
 unfold Lib.itoa
 split
 ·have:=hd 20 n.natAbs (by omega) (by omega)
  simp only [List.length_cons]; omega
 ·have:=hd 20 n.toNat (by omega) (by omega)
  omega
theorem plistL_le (ps:List P4) (l:Bs) (most:Int) (full:Bool) (hN:ps.length≤900) (hq:∀ q∈ps,size4 q≤10000):(plistL ps l most full).length≤20000000:=by
 have hn:=names_le full ps hq
 have ha:=andOf_len (langOf l)
 have ho:=othersOf_len (langOf l)
 have hj:∀ xs:List Bs,xs.length≤900→(∀ x∈xs,x.length≤10004)→(Lib.join xs sepL).length≤9005400:=fun xs h1 h2=>by
  have:=join_sep_le 10004 xs h2
  have h3:xs.length * (10004+2)≤900 * (10004+2):=Nat.mul_le_mul_right _ h1
  omega
 unfold plistL
 split
 ·have h1:=hj ((ps.take most.toNat).map (nameOf full)) (by rw [List.length_map,List.length_take]; omega) (fun x hx=>by
   obtain ⟨q,hq',rfl⟩:=List.mem_map.1 hx
   exact hn _ (List.mem_map.2 ⟨q,List.mem_of_mem_take hq',rfl⟩))
  simp only [List.length_append,List.length_cons,List.length_nil]
  omega
 ·unfold llistL
  split
  ·have:=hj (ps.map (nameOf full)) (by rw [List.length_map]; omega) hn
   omega
  ·have h1:=hj (ps.map (nameOf full)).dropLast (by rw [List.length_dropLast,List.length_map]; omega) (fun x hx=>hn x ((List.dropLast_sublist _).subset hx))
   have h2:((ps.map (nameOf full)).getLastD []).length≤10004:=by
    cases hx:(ps.map (nameOf full)).getLast? with
    | none=>rw [List.getLastD_eq_getLast?,hx]; simp
    | some x =>
     rw [List.getLastD_eq_getLast?,hx]
     exact hn x (List.mem_of_getLast? hx)
   simp only [List.length_append,List.length_cons,List.length_nil]
   omega
/-- Bounds of what a template is filled with, its texts too. -/
def FitV (c:FilT):Prop:=FitF c∧c.key.length≤1000000∧c.type.length≤1000000∧c.suffix.length≤1000000∧∀ p∈c.fields,p.2.length≤1000000
theorem valS_look (c:FilT) (k:Bs):valS c k=(lookB (specL c) k).getD ((fieldL c.fields k).getD []):=by
 unfold valS lookB
 cases (specL c).find? fun e=>e.1 == k <;> rfl
theorem field_len {ps:List Pr} {n:Nat} (h:∀ p∈ps,p.2.length≤n) (k:Bs):((fieldL ps k).getD []).length≤n:=by
 unfold fieldL
 cases hx:ps.find? fun q=>q.1 == k with
 | none=>simp
 | some p=>simpa using h p (List.mem_of_find?_eq_some hx)
theorem val_lenS (c:FilT) (h:FitV c) (k:Bs):(valS c k).length≤20000000:=by
 obtain ⟨⟨f1,f2,f3,f4,f5,f6,f7,f8⟩,g1,g2,g3,g4⟩:=h
 rw [valS_look]
 cases hx:lookB (specL c) k with
 | none =>
  have:=field_len g4 k
  simp only [Option.getD_none]; omega
 | some x =>
  simp only [Option.getD_some]
  unfold lookB at hx
  rw [Option.map_eq_some_iff] at hx
  obtain ⟨e,he,rfl⟩:=hx
  have h2:=List.mem_of_find?_eq_some he
  unfold specL at h2
  simp only [List.mem_cons,List.mem_nil_iff,or_false] at h2
  have hy:=yearL_range ((fieldL c.fields [121,101,97,114]).getD [])
  rcases h2 with rfl | rfl | rfl | rfl | rfl | rfl | rfl | rfl | rfl
  ·exact plistL_le _ _ _ _ f1 f3
  ·exact plistL_le _ _ _ _ f2 f4
  ·exact plistL_le _ _ _ _ f1 f3
  ·exact plistL_le _ _ _ _ f2 f4
  ·simp only
   unfold yearS
   split
   ·simp
   ·have:=itoa_len (yearN c) (by unfold yearN; omega) (by unfold yearN; omega)
    omega
  ·simp only; omega
  ·simp only
   unfold numS
   split
   ·simp
   ·have:=itoa_len c.number (by omega) (by omega)
    omega
  ·simp only; omega
  ·simp only; omega
theorem Tryz.zeroStr (w:World):(zeroValue 9).run Tryz.prog w=.ok (.string (bs [])) w:=by kernel_rfl
theorem Tryz.sizeSrc:(Tryz.prog.info? 50).map (fun x=>x.size)=some 5:=by kernel_rfl
set_option maxRecDepth 100000 in
set_option maxHeartbeats 3200000 in
theorem clo_val (c:FilT) (vA vE vF:Value) (k:Bs) (X S m:Nat) (es:List (Bs × Value)) (w:World) (hX:w.cell? ⟨X,0,none⟩=some (.map (some m))) (hm:MapT w m es) (hes:∀ k,getT es k=(lookB (specL c) k).map (fun x=>.string (bs x)))
  (hS:Blk w S 50 #[.string (bs c.key),.string (bs c.type),vA,vE,vF]) (hF:Prs w vF c.fields) (hn:c.fields.length≤1100000) :
  Calls Tryz.prog 62 #[.string (bs k),.pointer (some ⟨X,0,none⟩),.pointer (some ⟨S,0,none⟩)] w fun e w'=>e=.returned (.string (bs (valS c k)))∧Kept w w':=by
 have HV:=Lib.hid (valS_look c k)
 have lk:=lookT_ok (P:=Tryz.prog) Tryz.underlying114 Tryz.underlying9 w m es k (.string (bs [])) (Tryz.zeroStr _) hm
 rw [hes k] at lk
 have hXz:=World.block_lt_of_cell? w (a:=⟨X,0,none⟩) hX
 simp only at hXz
 have t0:w.cell? ⟨S,0,none⟩=some (.string (bs c.key)):=hS.cell 0 _ rfl
 have t1:w.cell? ⟨S,1,none⟩=some (.string (bs c.type)):=hS.cell 1 _ rfl
 have t2:w.cell? ⟨S,2,none⟩=some vA:=hS.cell 2 _ rfl
 have t3:w.cell? ⟨S,3,none⟩=some vE:=hS.cell 3 _ rfl
 have t4:w.cell? ⟨S,4,none⟩=some vF:=hS.cell 4 _ rfl
 have z0:=hS.lt
 have HFD:=Lib.hid (field_any c.key c.type vA vE vF c.fields k w hF hn)
 unfold FieldPost at HFD
 clear hm hes hS hF
 cases hx:lookB (specL c) k with
 | some x =>
  rw [hx] at HV lk
  simp only [Option.map_some,Option.getD_some,Option.isSome_some] at HV lk
  rw [HV.out]
  clear hx
  go_enter Tryz.func62,Tryz.ntmps62
  go_wp2_with fail
  go_ret
  exact ⟨rfl,Kept.refl _⟩
 | none =>
  rw [hx] at HV lk
  simp only [Option.map_none,Option.getD_none,Option.isSome_none] at HV lk
  rw [HV.out]
  clear hx
  generalize (fieldL c.fields k).getD []=r at *
  generalize (fieldL c.fields k).isSome=b at *
  go_enter Tryz.func62,Tryz.ntmps62
  go_wp2_with fail
  refine HFD.out.mono ?_
  rintro e w1 ⟨rfl,hk1⟩
  have HK:=Lib.hid hk1
  clear hk1
  go_wp2_with fail
  go_ret
  exact ⟨rfl,HK.out⟩
def fillS (c:FilT) (t:Bs):Bs:=fillB (splL t) (valS c)
theorem dropG_next (ps:List Pc) (val:Bs→Bs) (k:Nat) (hk:k<ps.length):dropG (ps.take (k+1)) val=dropG (ps.take k) val ++ (if (ps[k].fld && (!(ps[k].grp == 0) && (val ps[k].txt == [])))=true then [(ps[k].grp:Int)] else []):=by
 rw [List.take_succ_eq_append_getElem hk]
 unfold dropG
 rw [List.filter_append,List.map_append]
 by_cases h:(ps[k].fld && (!(ps[k].grp == 0) && (val ps[k].txt == [])))=true
 ·rw [if_pos h,List.filter_cons,if_pos h]; rfl
 ·rw [if_neg h,List.filter_cons,if_neg h]; rfl
theorem fill_next (ps:List Pc) (f:Pc→Bs) (k:Nat) (hk:k<ps.length):(ps.take (k+1)).flatMap f=(ps.take k).flatMap f ++ f ps[k]:=by
 rw [List.take_succ_eq_append_getElem hk,List.flatMap_append]
 simp
theorem fill_len (ps:List Pc) (f:Pc→Bs) (n:Nat) (h:∀ p∈ps,(f p).length≤n):(ps.flatMap f).length≤ps.length * n:=by
 induction ps with
 | nil=>simp
 | cons p ps ih =>
  rw [List.flatMap_cons,List.length_append,List.length_cons,Nat.succ_mul]
  have h1:=h p (List.mem_cons_self ..)
  have h2:=ih (fun q hq=>h q (List.mem_cons_of_mem _ hq))
  omega
set_option maxRecDepth 100000 in
set_option maxHeartbeats 12800000 in
theorem sfill_any (c:FilT) (t:Bs) (vA vE vF vY:Value) (y:StyT) (w:World) (hy:y.most=c.most) (hYo:vY.oneCell'=true) (hg:Gnd w) (hT:Lib.TabIs Tryz.prog w "internal/strconv.uint64pow10" .u64 Lib.pow10Tab) (ht:t.length≤100000) (hs:FitV c)
  (hA:Perss w vA c.author) (hE:Perss w vE c.editor) (hF:Prs w vF c.fields) :
  Calls Tryz.prog 23 #[.string (bs t),srcV c.key c.type vA vE vF,styV vY y,.string (bs c.lang),.string (bs c.suffix),.int .i64 c.number] w fun e w'=>e=.returned (.tuple #[.string (bs (fillS c t)),.int .i64 (splE t)])∧Kept w w':=by
 have HG:=Lib.hid hg
 have HSP:=Lib.hid (fun w h=>ssplit_any t w h ht)
 unfold SplitP at HSP
 have HT:=Lib.hid hT
 have HA:=Lib.hid hA
 have HE:=Lib.hid hE
 have HF:=Lib.hid hF
 have HSV:=Lib.hid (fun w h1 h2 h3 h4=>svals_any c vA vE vF vY y w hy h1 h2 h3 h4 hs.1)
 unfold ValsP at HSV
 have HVL:=Lib.hid (fun k=>val_lenS c hs k)
 have HCLO:=Lib.hid (fun k X S m es w h1 h2 h3 h4 h5=>clo_val c vA vE vF k X S m es w h1 h2 h3 h4 h5 hs.1.2.2.2.2.2.1)
 have hln:=splL_len t
 have HPL:Hid (∀ p∈splL t,p.txt.length≤100000):=fun p hp=>by have:=(splL_pcs p hp).2.1; omega
 have HFS:Hid (fillS c t=fillB (splL t) (valS c)):=rfl
 have HNIL:Hid (splE t≠0→fillS c t=[]):=fun h=>by
  have:splL t=[]:=by unfold splL; rw [if_neg h]
  unfold fillS; rw [this]; rfl
 clear hg hT hA hE hF hs hy
 generalize fillS c t=T at *
 generalize splE t=E at *
 generalize splL t=ps at *
 generalize specL c=sp at *
 generalize valS c=val at *
 unfold styV styCells srcV at HSV ⊢
 have HS0:=Lib.hid (Blk.new w 50 #[.string (bs c.key),.string (bs c.type),vA,vE,vF])
 have HK0:=Lib.hid (kept_alloc w (.cells #[.string (bs c.key),.string (bs c.type),vA,vE,vF] 50))
 have HS1:=Lib.hid (Blk.new (w.alloc (.cells #[.string (bs c.key),.string (bs c.type),vA,vE,vF] 50)) 33 (styCells vY y))
 have HK1:=Lib.hid (kept_alloc (w.alloc (.cells #[.string (bs c.key),.string (bs c.type),vA,vE,vF] 50)) (.cells (styCells vY y) 33))
 unfold styCells at HK1
 have e1:(w.alloc (.cells #[.string (bs c.key),.string (bs c.type),vA,vE,vF] 50)).heap.size=w.heap.size+1:=by simp
 rw [e1] at HS1
 unfold styCells at HS1
 go_enter Tryz.func23,Tryz.ntmps23
 go_wp2_with fail
 have HSA:=Lib.hid (HS0.out.kept HK1.out)
 have HKW:=Lib.hid (HK0.out.trans HK1.out)
 clear HS0 HK0 HK1 e1
 generalize World.alloc (World.alloc _ _) _=w0 at HS1 HSA HKW ⊢
 obtain ⟨S,HSS⟩:∃ B,Hid (w.heap.size=B):=⟨_,rfl⟩
 rw [HSS.out] at HS1 HSA ⊢
 refine (HSP.out _ (HG.out.kept HKW.out)).mono ?_
 rintro e w1 ⟨v,rfl,hp,hk1⟩
 have HP1:=Lib.hid hp
 have HKW1:=Lib.hid (HKW.out.trans hk1)
 have HSA1:=Lib.hid (HSA.out.kept hk1)
 have HSY1:=Lib.hid (HS1.out.kept hk1)
 obtain ⟨ap,cp,rfl,hcp⟩:=hp.form
 clear hp hk1 HSP HSA HS1 HKW
 by_cases hE0:E=0
 case neg =>
  have hE':(E == 0)=false:=by rw [beq_eq_false_iff_ne]; exact hE0
  have HNN:=Lib.hid (HNIL.out hE0)
  clear hE0
  go_wp2_with fail
  go_ret2
  exact ⟨by rw [HNN.out]; rfl,HKW1.out⟩
 subst hE0
 have hone:(#[.string (bs y.name),.bool y.numeric,.string (bs y.sort),.string (bs y.cite),.string (bs y.bare),.string (bs y.between),.string (bs y.begin_),.string (bs y.end_),.int .i64 y.most,vY]:Array Value).size=10:=rfl
 go_wp2_with (first
  | (refine wpList_load_blk (by rfl) 50 (.tmp 7) (by rfl) S _ (by rfl) HSA1.out _ Tryz.underlying50 rfl Tryz.sizeSrc ?_)
  | (refine wpList_load_blk (by rfl) 33 (.tmp 8) (by rfl) (S+1) _ (by rfl) HSY1.out _ Tryz.underlying33 rfl Tryz.sizeSty ?_))
 refine (HSV.out _ (HA.out.kept HKW1.out) (HE.out.kept HKW1.out) (HF.out.kept HKW1.out) (tab_kept HT.out HKW1.out)).mono ?_
 rintro e w2 ⟨m,es,rfl,hmz,hmap,hget,hk2⟩
 have HKW2:=Lib.hid (HKW1.out.trans hk2)
 have HSA2:=Lib.hid (HSA1.out.kept hk2)
 have HP2:=Lib.hid (HP1.out.kept hk2)
 have HMT2:=Lib.hid hmap
 have HGET:=Lib.hid hget
 clear hmz hmap hget hk2 HSV HSA1 HSY1 HP1 hone
 have mk:=fun w=>run_makeMap (P:=Tryz.prog) 116 w
 go_wp2_with fail
 have HCX:=Lib.hid (Blk.new w2 114 #[.map (some m)])
 have HKX:=Lib.hid (kept_alloc w2 (.cells #[.map (some m)] 114))
 have HMX:=Lib.hid (MapV.made (w2.alloc (.cells #[.map (some m)] 114)))
 have HKX2:=Lib.hid (kept_alloc (w2.alloc (.cells #[.map (some m)] 114)) (.map #[] 0))
 have e1:(w2.alloc (.cells #[.map (some m)] 114)).heap.size=w2.heap.size+1:=by simp
 rw [e1] at HMX
 have hDz:(w2.alloc (.cells #[.map (some m)] 114)).heap.size≤w2.heap.size+1:=by rw [e1]; exact Nat.le_refl _
 clear e1
 obtain ⟨X,HXX⟩:∃ X,Hid (w2.heap.size=X):=⟨_,rfl⟩
 rw [HXX.out] at HCX HMX hDz ⊢
 have HCL:Hid (∀ k w',Kept (w2.alloc (.cells #[.map (some m)] 114)) w'→Calls Tryz.prog 62 #[.string (bs k),.pointer (some ⟨X,0,none⟩),.pointer (some ⟨S,0,none⟩)] w' fun e w''=>e=.returned (.string (bs (val k)))∧Kept w' w''):=fun k w' hk=>HCLO.out k X S m es w' ((HCX.out.kept hk).cell 0 _ rfl) (HMT2.out.kept (HKX.out.trans hk)) HGET.out (HSA2.out.kept (HKX.out.trans hk)) (HF.out.kept (HKW2.out.trans (HKX.out.trans hk)))
 have HPX:=Lib.hid (HP2.out.kept HKX.out)
 have HKWX:=Lib.hid (HKW2.out.trans HKX.out)
 generalize World.alloc w2 _=wX at *
 have HTK:=Lib.hid (dropG_next ps val)
 have HO0:Hid (dropG (ps.take 0) val=[]):=rfl
 have HON:Hid (dropG (ps.take ps.length) val=dropG ps val):=by show _=_; rw [List.take_of_length_le (Nat.le_refl _)]
 clear HCLO HMT2 HGET HSA2 HKW2 HKX HP2 HT HA HE HF HCX mk HXX
 obtain ⟨D,HDD⟩:∃ D,Hid (X+1=D):=⟨_,rfl⟩
 rw [HDD.out] at HMX hDz ⊢
 (try simp only [mk_bs])
 go_loopw [42] (fun i wr=>∃ k:Nat,k≤ps.length∧i=.int .i64 k∧Hid (MapV wr D (setV (dropG (ps.take k) val)))∧Hid (Kept wX wr)) (fun i _=>ps.length - (intOf i).toNat)
 case atStart=>exact ⟨0,Nat.zero_le _,rfl,HMX.out,HKX2.out⟩
 case round =>
  clear HMX HKX2
  obtain ⟨k,hk,rfl,HM,HKR⟩:=hrel
  by_cases hlt:k<ps.length
  ·have hx:=List.getElem?_eq_getElem hlt
   obtain ⟨g,o,rfl,hg,d0,d1,d2⟩:=(HPX.out.kept HKR.out).cell_of k _ hx
   have HST:=Lib.hid (HTK.out k hlt)
   generalize ps[k]=p at *
   obtain ⟨x,f,gr⟩:=p
   simp only at d0 d1 d2 HST
   clear hx
   cases f with
   | false =>
    have HST2:Hid (dropG (ps.take (k+1)) val=dropG (ps.take k) val):=by show _=_; rw [HST.out]; simp
    have HM2:=Lib.hid (HM.out.kept (kept_alloc wr (.cells #[.string (bs x),.bool false,.int .i64 gr] 118)))
    have HK2:=Lib.hid (HKR.out.trans (kept_alloc wr (.cells #[.string (bs x),.bool false,.int .i64 gr] 118)))
    rw [← HST2.out] at HM2
    clear HM HKR HST
    go_wp2_with fail
    go_roundw
    case rel=>exact ⟨k+1,by omega,by go_num,HM2.out,HK2.out⟩
    case measure=>simp [intOf]; omega
   | true =>
    cases h3:(gr == 0) with
    | true =>
     obtain rfl:gr=0:=by simpa using h3
     have HST2:Hid (dropG (ps.take (k+1)) val=dropG (ps.take k) val):=by show _=_; rw [HST.out]; simp
     have HM2:=Lib.hid (HM.out.kept (kept_alloc wr (.cells #[.string (bs x),.bool true,.int .i64 (0:Nat)] 118)))
     have HK2:=Lib.hid (HKR.out.trans (kept_alloc wr (.cells #[.string (bs x),.bool true,.int .i64 (0:Nat)] 118)))
     rw [← HST2.out] at HM2
     clear HM HKR HST h3
     go_wp2_with fail
     go_roundw
     case rel=>exact ⟨k+1,by omega,by go_num,HM2.out,HK2.out⟩
     case measure=>simp [intOf]; omega
    | false =>
     have h3':((gr:Int) == 0)=false:=by
      rw [beq_eq_false_iff_ne] at h3 ⊢; omega
     have h3n:((gr:Int) != 0)=true:=by rw [bne,h3']; rfl
     have h3g:0<gr:=by rw [beq_eq_false_iff_ne] at h3; omega
     rw [h3] at HST
     have HMA:=Lib.hid (HM.out.kept (kept_alloc wr (.cells #[.string (bs x),.bool true,.int .i64 gr] 118)))
     have HKA:=Lib.hid (HKR.out.trans (kept_alloc wr (.cells #[.string (bs x),.bool true,.int .i64 gr] 118)))
     have HBA:=Lib.hid (Blk.new wr 118 #[.string (bs x),.bool true,.int .i64 gr])
     have HCX:=Lib.hid (fun w' h=>HCL.out x w' h)
     clear HM HKR
     cases hv:(val x == ([]:Bs)) with
     | false =>
      have HST2:Hid (dropG (ps.take (k+1)) val=dropG (ps.take k) val):=by show _=_; rw [HST.out,hv]; simp
      rw [← HST2.out] at HMA
      generalize val x=vx at *
      go_wp2_with fail
      refine (HCX.out _ HKA.out).mono ?_
      rintro e w5 ⟨rfl,hk5⟩
      have HM5:=Lib.hid (HMA.out.kept hk5)
      have HK5:=Lib.hid (HKA.out.trans hk5)
      clear hk5 HMA HKA
      go_wp2_with fail
      go_roundw
      case rel=>exact ⟨k+1,by omega,by go_num,HM5.out,HK5.out⟩
      case measure=>simp [intOf]; omega
     | true =>
      have HST2:Hid (dropG (ps.take (k+1)) val=dropG (ps.take k) val ++ [(gr:Int)]):=by show _=_; rw [HST.out,hv]; rfl
      have UP:Hid (∀ w',MapV w' D (setV (dropG (ps.take k) val))→(Instr.mapUpdate 116 (.map (some D)) (.int .i64 gr) (.bool true)).run Tryz.prog w'=.ok () (putV w' D (setV (dropG (ps.take (k+1)) val)))):=fun w' hm=>by
       rw [HST2.out]
       cases hgv:getV (setV (dropG (ps.take k) val)) (gr:Int) with
       | none =>
        rw [setV_snoc,hgv]
        exact insV (P:=Tryz.prog) Tryz.underlying116 Tryz.underlying3 w' _ _ gr (.bool true) hm hgv
       | some u =>
        have hu:u=.bool true:=by
         have:=setV_is (dropG (ps.take k) val) gr
         rw [hgv] at this
         split at this
         ·exact Option.some.inj this
         ·cases this
        subst hu
        rw [setV_snoc,hgv]
        exact againV (P:=Tryz.prog) Tryz.underlying116 Tryz.underlying3 w' _ _ gr (.bool true) hm hgv
      generalize val x=vx at *
      go_wp2_with fail
      refine (HCX.out _ HKA.out).mono ?_
      rintro e w5 ⟨rfl,hk5⟩
      have HM5:=Lib.hid (HMA.out.kept hk5)
      have HK5:=Lib.hid (HKA.out.trans hk5)
      have c2:w5.cell? ⟨wr.heap.size,2,none⟩=some (.int .i64 gr):=(HBA.out.kept hk5).cell 2 _ rfl
      have zc:=(HBA.out.kept hk5).lt
      have up:=UP.out _ HM5.out
      have HM6:=Lib.hid (putV_map w5 D (setV (dropG (ps.take (k+1)) val)) HM5.out.lt)
      have HK6:=Lib.hid (only_kept HK5.out (putV_only w5 D (setV (dropG (ps.take (k+1)) val))) hDz)
      clear hk5 HMA HKA
      go_wp2_with fail
      go_roundw
      case rel=>exact ⟨k+1,by omega,by go_num,HM6.out,HK6.out⟩
      case measure=>simp [intOf]; omega
  ·obtain rfl:k=ps.length:=by omega
   rw [HON.out] at HM
   have HPC:=Lib.hid (HPX.out.kept HKR.out)
   have HCC:Hid (∀ k w',Kept wr w'→Calls Tryz.prog 62 #[.string (bs k),.pointer (some ⟨X,0,none⟩),.pointer (some ⟨S,0,none⟩)] w' fun e w''=>e=.returned (.string (bs (val k)))∧Kept w' w''):=fun k w' hk=>HCL.out k w' (HKR.out.trans hk)
   have HKC:=Lib.hid (HKWX.out.trans HKR.out)
   clear HTK HO0 HON HCL HPX HKWX HKR hlt
   obtain ⟨DS,HDS⟩:∃ l,Hid (dropG ps val=l):=⟨_,rfl⟩
   rw [HDS.out] at HM
   have HFT:Hid (T=(ps.take ps.length).flatMap (fillP val DS)):=by
    show _=_
    rw [HFS.out,List.take_of_length_le (Nat.le_refl _)]
    unfold fillB
    rw [HDS.out]
   have HFN:=Lib.hid (fill_next ps (fillP val DS))
   have HFL:Hid (∀ k,((ps.take k).flatMap (fillP val DS)).length≤2000000000000):=fun k=>by
    have h1:=fill_len (ps.take k) (fillP val DS) 20000000 (fun p hp=>by
     unfold fillP
     split
     ·simp
     ·split
      ·exact HVL.out _
      ·have:=HPL.out p (List.mem_of_mem_take hp); omega)
    have h2:(ps.take k).length≤100000:=by rw [List.length_take]; omega
    omega
   have HMC:=Lib.hid HM.out
   have hwz:w.heap.size≤wr.heap.size:=HKC.out.size
   clear HM HFS HDS
   go_wp2_with fail
   (try simp only [mk_bs])
   obtain ⟨wC,rfl⟩:∃ wo:World,wo=wr:=⟨_,rfl⟩
   go_loopw [66] (fun i wr=>∃ k:Nat,k≤ps.length∧i=.int .i64 k∧Hid (Lib.IsBuilder 122 5 wC.heap.size wC.heap.size (Lib.byteCells ((ps.take k).flatMap (fillP val DS))) wr)∧Hid (Kept wC wr)) (fun i _=>ps.length - (intOf i).toNat)
   case atStart =>
    refine ⟨0,Nat.zero_le _,rfl,?_,kept_alloc _ _⟩
    show Lib.IsBuilder _ _ _ _ _ _
    refine .inl ⟨Nat.le_refl _,.slice none 0 0,?_,World.ownsRow_nil _ _ _ _,by simp [Value.ownBlock]⟩
    exact heap_alloc_new wC _
   case round =>
    obtain ⟨k,hk,rfl,HB,HKR⟩:=hrel
    by_cases hlt:k<ps.length
    ·have hx:=List.getElem?_eq_getElem hlt
     obtain ⟨g,o,rfl,hg,d0,d1,d2⟩:=(HPC.out.kept HKR.out).cell_of k _ hx
     have HST:=Lib.hid (HFN.out k hlt)
     have HPT:=Lib.hid (HPL.out _ (List.getElem_mem hlt))
     generalize ps[k]=p at *
     obtain ⟨x,f,gr⟩:=p
     simp only at d0 d1 d2 HST HPT
     have hfl:=HFL.out k
     generalize (ps.take k).flatMap (fillP val DS)=O at *
     have HBA:=Lib.hid (bld_kept HB.out (kept_alloc wr (.cells #[.string (bs x),.bool f,.int .i64 gr] 118)))
     have HKA:=Lib.hid (HKR.out.trans (kept_alloc wr (.cells #[.string (bs x),.bool f,.int .i64 gr] 118)))
     have HQA:=Lib.hid (Blk.new wr 118 #[.string (bs x),.bool f,.int .i64 gr])
     have lk:=lookV (P:=Tryz.prog) Tryz.underlying116 Tryz.underlying3 (wr.alloc (.cells #[.string (bs x),.bool f,.int .i64 gr] 118)) D (setV DS) (gr:Int) (.bool false) (Tryz.zeroBool _) (HMC.out.kept HKA.out)
     rw [setV_has] at lk
     have HFP:fillP val DS ⟨x,f,gr⟩=if DS.contains (gr:Int)=true then [] else if f=true then val x else x:=rfl
     rw [HFP] at HST
     clear HFP
     clear hx HB HKR
     cases hct:DS.contains (gr:Int) with
     | true =>
      rw [hct] at HST lk
      simp only [if_true,List.append_nil] at HST
      clear hct
      rw [← HST.out] at HBA
      go_wp2_with fail
      go_roundw
      case rel=>exact ⟨k+1,by omega,by go_num,HBA.out,HKA.out⟩
      case measure=>simp [intOf]; omega
     | false =>
      rw [hct] at HST lk
      simp only [Bool.false_eq_true,if_false] at HST
      clear hct
      cases f with
      | false =>
       simp only [Bool.false_eq_true,if_false] at HST
       go_wp2_with fail
       refine (bld_string wC.heap.size wC.heap.size _ x _ HBA.out (by rw [Lib.byteCells_length]; have:=HPT.out; omega) HKA.out.size).mono ?_
       rintro e w5 ⟨rfl,hb5,hbe5⟩
       have HB5:Hid (Lib.IsBuilder 122 5 wC.heap.size wC.heap.size (Lib.byteCells ((ps.take (k+1)).flatMap (fillP val DS))) w5):=by
        refine .inr ?_
        show Lib.BuilderAt _ _ _ _ _ _ _
        rw [HST.out,byteCells_app]; exact hb5
       have HK5:=Lib.hid (HKA.out.trans' hbe5)
       clear hb5 hbe5
       go_wp2_with fail
       go_roundw
       case rel=>exact ⟨k+1,by omega,by go_num,HB5.out,HK5.out⟩
       case measure=>simp [intOf]; omega
      | true =>
       simp only [if_true] at HST
       have HCX:=Lib.hid (fun w' h=>HCC.out x w' h)
       have hvl:=HVL.out x
       generalize val x=vx at HCX HST hvl
       go_wp2_with fail
       refine (HCX.out _ HKA.out).mono ?_
       rintro e w4 ⟨rfl,hk4⟩
       have HB4:=Lib.hid (bld_kept HBA.out hk4)
       have HK4:=Lib.hid (HKA.out.trans hk4)
       clear hk4
       go_wp2_with fail
       refine (bld_string wC.heap.size wC.heap.size _ vx _ HB4.out (by rw [Lib.byteCells_length]; omega) HK4.out.size).mono ?_
       rintro e w5 ⟨rfl,hb5,hbe5⟩
       have HB5:Hid (Lib.IsBuilder 122 5 wC.heap.size wC.heap.size (Lib.byteCells ((ps.take (k+1)).flatMap (fillP val DS))) w5):=by
        refine .inr ?_
        show Lib.BuilderAt _ _ _ _ _ _ _
        rw [HST.out,byteCells_app]; exact hb5
       have HK5:=Lib.hid (HK4.out.trans' hbe5)
       clear hb5 hbe5
       go_wp2_with fail
       go_roundw
       case rel=>exact ⟨k+1,by omega,by go_num,HB5.out,HK5.out⟩
       case measure=>simp [intOf]; omega
    ·obtain rfl:k=ps.length:=by omega
     rw [← HFT.out] at HB
     go_wp2_with fail
     refine (Tryz.Builder_String_any wC.heap.size wC.heap.size T _ HB.out HKR.out.size).mono ?_
     rintro e w5 ⟨rfl,hb5⟩
     have HK5:=Lib.hid (HKC.out.trans (HKR.out.trans' hb5))
     clear hb5
     go_wp2_with fail
     go_ret2
     exact ⟨rfl,HK5.out⟩
end Go.Proofs.YtmcoomlkbgiboaaGreatDoor

/- A citation as a text with holes for its suffix. Conditions: the style is valid. -/
set_option linter.all false
namespace Go.Proofs.YtmcoomlkbgiboaaGreatDoor
open Go.RowKit

theorem sty_freeC {y:StyT} (h:styE y=0):splE y.cite=0∧freeB (splL y.cite) (if y.numeric=true then kNumber else kSuffix)=true:=by
 have hc:citE y=0:=by
  unfold styE at h
  split at h
  ·cases h
  ·split at h
   ·cases h
   ·split at h
    ·rename_i q; exact absurd h q
    ·split at h
     ·rename_i q; exact absurd h q
     ·rename_i q; exact Decidable.not_not.1 q
 unfold citE at hc
 split at hc
 ·rename_i q; exact absurd hc q
 ·rename_i q
  refine ⟨Decidable.not_not.1 q,?_⟩
  cases hfb:freeB (splL y.cite) (if y.numeric=true then kNumber else kSuffix) with
  | true=>rfl
  | false=>rw [hfb,if_pos rfl] at hc; cases hc
/-- A piece of a template with holes for the values of key. -/
def tokP (val:Bs→Bs) (key:Bs) (ds:List Int) (p:Pc):Tok:=if ds.contains (p.grp:Int)=true then [] else if p.fld=true then (if p.txt=key then [none] else (val p.txt).map some) else p.txt.map some
theorem tokP_fill (val val0:Bs→Bs) (key s:Bs) (ds:List Int) (h1:val key=s) (h2:∀ k,k≠key→val k=val0 k) (p:Pc):tokS s (tokP val0 key ds p)=fillP val ds p:=by
 unfold tokP fillP
 split
 ·rfl
 ·split
  ·split
   ·rename_i q; rw [tokS_hole,q,h1]
   ·rename_i q; rw [tokS_some,h2 _ q]
  ·rw [tokS_some]
theorem dropG_same (ps:List Pc) (v1 v2:Bs→Bs) (h:∀ k,(v1 k == [])=(v2 k == [])):dropG ps v1=dropG ps v2:=by
 unfold dropG
 congr 1
 refine List.filter_congr fun p _=>?_
 rw [h]
/-- The template with holes. -/
def tokF (ps:List Pc) (val:Bs→Bs) (key:Bs):Tok:=ps.flatMap (tokP val key (dropG ps val))
theorem tokF_fill (ps:List Pc) (val val0:Bs→Bs) (key s:Bs) (hs:s≠[]) (h0:val0 key≠[]) (h1:val key=s) (h2:∀ k,k≠key→val k=val0 k):fillB ps val=tokS s (tokF ps val0 key):=by
 have hd:dropG ps val=dropG ps val0:=dropG_same ps val val0 (fun k=>by
  by_cases q:k=key
  ·subst q
   have a:(val k == [])=false:=by rw [h1]; simpa using hs
   have b:(val0 k == [])=false:=by simpa using h0
   rw [a,b]
  ·rw [h2 k q])
 unfold fillB tokF
 rw [tokS_flat,hd]
 congr 1
 funext p
 exact (tokP_fill val val0 key s _ h1 h2 p).symm
theorem tokF_hole (ps:List Pc) (val:Bs→Bs) (key:Bs) (h0:val key≠[]) (h:freeB ps key=true):none∈tokF ps val key:=by
 unfold freeB at h
 rw [List.any_eq_true] at h
 obtain ⟨p,hp,h1⟩:=h
 rw [Bool.and_eq_true,Bool.and_eq_true,Bool.not_eq_true',beq_iff_eq] at h1
 obtain ⟨hf,ht,ho⟩:=h1
 have hd:(dropG ps val).contains (p.grp:Int)=false:=by
  rw [Bool.eq_false_iff]
  intro q
  rw [List.contains_iff_mem] at q
  unfold dropG at q
  rw [List.mem_map] at q
  obtain ⟨p2,hp2,e⟩:=q
  rw [List.mem_filter] at hp2
  obtain ⟨hm,hc⟩:=hp2
  rw [Bool.and_eq_true,Bool.and_eq_true,beq_iff_eq] at hc
  obtain ⟨c1,c2,c3⟩:=hc
  rw [Bool.eq_false_iff] at ho
  refine ho ?_
  rw [List.contains_iff_mem]
  unfold othG
  rw [List.mem_map]
  refine ⟨p2,?_,e⟩
  rw [List.mem_filter]
  refine ⟨hm,?_⟩
  have:(p2.txt == key)=false:=by
   rw [beq_eq_false_iff_ne]
   intro q
   rw [q] at c3; exact h0 c3
  rw [c1,this,c2]; rfl
 unfold tokF
 rw [List.mem_flatMap]
 refine ⟨p,hp,?_⟩
 unfold tokP
 rw [hd,if_neg (by simp),if_pos hf,if_pos ht]
 simp
/-- The value of a field does not lean on the suffix, but for the suffix itself. -/
theorem valS_suf (c:FilT) (s:Bs):valS { c with suffix:=s } kSuffix=s:=by
 unfold valS specL
 rfl
theorem valS_other (c:FilT) (s k:Bs) (h:k≠kSuffix):valS { c with suffix:=s } k=valS c k:=by
 have hk:(kSuffix == k)=false:=by rw [beq_eq_false_iff_ne]; exact fun e=>h e.symm
 unfold valS specL
 simp only [List.find?_cons,hk]
 rfl
/-- A citation with a suffix. -/
theorem cite_tok {y:StyT} (hy:styE y=0) (hn:y.numeric=false) (c:FilT) (s:Bs) (hs:s≠[]):fillS { c with suffix:=s } y.cite=tokS s (tokF (splL y.cite) (valS { c with suffix:=[97] }) kSuffix) :=
 tokF_fill _ _ _ _ s hs (by rw [valS_suf]; simp) (valS_suf c s) (fun k hk=>by rw [valS_other c s k hk,valS_other c [97] k hk])
theorem cite_hole {y:StyT} (hy:styE y=0) (hn:y.numeric=false) (c:FilT):none∈tokF (splL y.cite) (valS { c with suffix:=[97] }) kSuffix:=by
 have h:=(sty_freeC hy).2
 rw [hn] at h
 exact tokF_hole _ _ _ (by rw [valS_suf]; simp) h
end Go.Proofs.YtmcoomlkbgiboaaGreatDoor

/- Plain: the suffixes of sources. No condition. -/
set_option linter.all false
namespace Go.Proofs.YtmcoomlkbgiboaaGreatDoor
open Go.RowKit

/-- A source to be filled in. -/
def filT (s:SrcT) (y:StyT) (lang suf:Bs) (n:Int):FilT:=⟨s.key,s.type,s.author,s.editor,s.fields,lang,suf,n,y.most⟩
/-- How a source is cited. -/
def citS (s:SrcT) (y:StyT) (lang suf:Bs):Bs:=fillS (filT s y lang suf 0) y.cite
def citX (y:StyT) (lang:Bs) (s:SrcT):CitX:=(citS s y lang [],tokF (splL y.cite) (valS (filT s y lang [97] 0)) kSuffix)
theorem citX_n {y:StyT} (hy:styE y=0) (hn:y.numeric=false) (lang:Bs) (s:SrcT) (n:Nat):citS s y lang (letL n)=citN (citX y lang s) n:=by
 unfold citN
 split
 ·rename_i q; subst q; unfold letL; rw [letR_zero]; rfl
 ·rename_i q
  exact cite_tok hy hn (filT s y lang [] 0) (letL n) (letL_ne (by omega))
theorem citX_hole {y:StyT} (hy:styE y=0) (hn:y.numeric=false) (lang:Bs) (s:SrcT):none∈(citX y lang s).2:=cite_hole hy hn (filT s y lang [] 0)
/-- Suffixes: the error and the suffixes. -/
def sufR (y:StyT) (lang:Bs) (l:List SrcT):Int × List Bs:=if styE y=0 then (0,if y.numeric=true then l.map fun _=>[] else (sufN (l.map (citX y lang))).map letL) else (styE y,[])
/-- Numbers stay small. -/
theorem frs_le {ps:List Bs} {done:List CitX} {st:SufS} (h:SufI ps done st) {x:CitX} (hx:none∈x.2):frsN st.taken x st.taken.length (st.next (shpX x))≤st.taken.length+1:=by
 obtain ⟨h1,h2,h3⟩:=h.old hx
 have:=pig_cit hx (frsN st.taken x st.taken.length (st.next (shpX x)) - 1) st.taken 1 (by omega) (fun j hj=>h3 (1+j) (by omega) (by omega))
 omega
theorem taken_le {ps:List Bs} {done:List CitX} {st:SufS} (h:SufI ps done st) (hl:done.length≤ps.length):st.taken.length≤2 * ps.length:=by
 have h1:=h.tl
 have h2:=List.length_filter_le (aloneB ps) ps
 omega
end Go.Proofs.YtmcoomlkbgiboaaGreatDoor
