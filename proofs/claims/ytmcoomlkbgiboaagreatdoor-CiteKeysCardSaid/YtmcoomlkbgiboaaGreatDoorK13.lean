/- Regions that draw their order, by an invariant over what has been done. No condition. -/
import Derived.Test.YtmcoomlkbgiboaaGreatDoorK01
import Derived.Test.YtmcoomlkbgiboaaGreatDoorK04
import Derived.Test.YtmcoomlkbgiboaaGreatDoorK08
import Derived.Orders
import Derived.Great.BuildSlice

set_option linter.all false
namespace Go.Proofs.YtmcoomlkbgiboaaGreatDoor
open Go.RowKit

/-- The operation i has been done. -/
def On (L:Array Bool) (i:Nat):Prop:=L.getD i false=true
theorem on_same {L:Array Bool} {i:Nat} (h:i<L.size):On (L.setIfInBounds i true) i:=by
 unfold On; simp [Array.getD_eq_getD_getElem?,h]
theorem on_ne {L:Array Bool} {i j:Nat} (h:i≠j):On (L.setIfInBounds i true) j↔On L j:=by
 unfold On; rw [getD_set_ne false h]
theorem on_set {L:Array Bool} {i j:Nat} (h:On (L.setIfInBounds i true) j):j=i∨On L j:=by
 by_cases q:i=j
 ·exact .inl q.symm
 ·exact .inr ((on_ne q).1 h)
theorem on_mono {L:Array Bool} {i j:Nat} (h:On L j):On (L.setIfInBounds i true) j:=getD_set_true h
theorem not_on {L:Array Bool} {i:Nat} (h:L.getD i true=false):¬ On L i:=by
 unfold On
 intro q
 have hi:i<L.size:=by
  rcases Nat.lt_or_ge i L.size with x | x
  ·exact x
  ·rw [Array.getD_eq_getD_getElem?,Array.getElem?_eq_none x] at h; cases h
 rw [Array.getD_eq_getD_getElem?,Array.getElem?_eq_getElem hi] at h q
 simp only [Option.getD_some] at h q
 rw [h] at q; cases q
def offN (L:Array Bool):Nat→Nat
 | 0=>0
 | n+1=>offN L n+(if L.getD n true=true then 0 else 1)
theorem offN_set (L:Array Bool) (i:Nat) (h:L.getD i true=false):∀ n,offN (L.setIfInBounds i true) n+(if i<n then 1 else 0)=offN L n
 | 0=>by simp [offN]
 | n+1=>by
  have ih:=offN_set L i h n
  rw [offN,offN]
  by_cases q:i=n
  ·subst q
   rw [if_neg (Nat.lt_irrefl _)] at ih
   have hi:i<L.size:=by
    rcases Nat.lt_or_ge i L.size with x | x
    ·exact x
    ·rw [Array.getD_eq_getD_getElem?,Array.getElem?_eq_none x] at h; cases h
   have e:(L.setIfInBounds i true).getD i true=true:=by simp [Array.getD_eq_getD_getElem?,hi]
   rw [e,h]
   simp; omega
  ·rw [getD_set_ne true q]
   generalize (if L.getD n true=true then 0 else 1)=z
   by_cases q2:i<n
   ·have q3:i<n+1:=by omega
    simp only [q2,q3,if_true] at ih ⊢; omega
   ·have q3:¬ i<n+1:=by omega
    simp only [q2,q3,if_false] at ih ⊢; omega
section
variable {P:Program} {ops:Array Oper} {Q:Exit→Act→World→Prop} {md:Region.Mode}
theorem wpAny_inv (I:Array Bool→Act→World→Prop) (hac:∀ (i:Nat) (o:Oper),ops[i]? = some o→∀ e∈o.after,Region.binds md e=true→e.on<i)
  (hend:∀ L a w,I L a w→(∀ i,i<ops.size→L.getD i true=true)→Q .normal a w)
  (hstep:∀ L a w i,I L a w→i<ops.size→L.getD i true=false→(∀ o,ops[i]? = some o→∀ e∈o.after,Region.binds md e=true→On L e.on)→wpOp P ops Q i (I (L.setIfInBounds i true)) a w) :
  ∀ (fuel:Nat) L a w,offN L ops.size≤fuel→I L a w→wpAny P md ops Q fuel L a w:=by
 have hall:∀ L,L.size=L.size→Region.ready md ops L=[]→(∀ i,i<ops.size→L.getD i true=true):=by
  intro L _ hr i
  induction i using Nat.strongRecOn with
  | ind i ih =>
   intro hi
   cases hq:L.getD i true with
   | true=>rfl
   | false =>
    exfalso
    have:i∈Region.ready md ops L:=by
     rw [mem_ready]
     refine ⟨hq,ops[i],Array.getElem?_eq_getElem hi,fun e he hb=>?_⟩
     have h1:=hac i ops[i] (Array.getElem?_eq_getElem hi) e he hb
     have h2:=ih e.on h1 (by omega)
     have hlt:e.on<L.size:=by
      rcases Nat.lt_or_ge i L.size with x | x
      ·omega
      ·rw [Array.getD_eq_getD_getElem?,Array.getElem?_eq_none x] at hq; cases hq
     rw [Array.getD_eq_getD_getElem?,Array.getElem?_eq_getElem hlt] at h2 ⊢
     exact h2
    rw [hr] at this; cases this
 intro fuel
 induction fuel with
 | zero =>
  intro L a w hf hI
  have hz:∀ n,offN L n=0→∀ i,i<n→L.getD i true=true:=by
   intro n
   induction n with
   | zero=>intro _ i hi; omega
   | succ n ih =>
    intro h i hi
    rw [offN] at h
    by_cases q:i=n
    ·subst q
     cases hq:L.getD i true with
     | true=>rfl
     | false=>rw [hq] at h; simp at h
    ·exact ih (by omega) i (by omega)
  have ha:=hz ops.size (by omega)
  refine ⟨?_,hend L a w hI ha⟩
  cases hr:Region.ready md ops L with
  | nil=>rfl
  | cons i r =>
   exfalso
   have hi:i∈Region.ready md ops L:=by rw [hr]; exact List.mem_cons_self ..
   rw [mem_ready] at hi
   obtain ⟨h0,o,ho,_⟩:=hi
   have:=ha i (Array.getElem?_eq_some_iff.1 ho).1
   rw [this] at h0; cases h0
 | succ fuel ih =>
  intro L a w hf hI
  refine ⟨fun hr=>hend L a w hI (hall L rfl hr),fun i hi=>?_⟩
  rw [mem_ready] at hi
  obtain ⟨h0,o,ho,hed⟩:=hi
  have hlt:=(Array.getElem?_eq_some_iff.1 ho).1
  have hs:=offN_set L i h0 ops.size
  rw [if_pos hlt] at hs
  refine wpOp_mono (fun a' w' hI'=>ih _ a' w' (by omega) hI') (hstep L a w i hI hlt h0 (fun o' ho' e he hb=>?_))
  rw [ho] at ho'
  cases ho'
  exact hed e he hb
theorem offN_start (n:Nat):offN (Array.replicate n false) n≤n:=by
 have:∀ (L:Array Bool) m,offN L m≤m:=by
  intro L m
  induction m with
  | zero=>exact Nat.le_refl _
  | succ m ih=>rw [offN]; split <;> omega
 exact this _ _
/-- A region that draws its order, by an invariant. -/
theorem wp_region_inv {id:Nat} {a:Act} {w:World} (I:Array Bool→Act→World→Prop) (hm:P.follows .mixedOrders=true) (hac:∀ (i:Nat) (o:Oper),ops[i]? = some o→∀ e∈o.after,Region.binds .any e=true→e.on<i)
  (h0:I (Array.replicate ops.size false) a w.drew)
  (hend:∀ L a w,I L a w→(∀ i,i<ops.size→L.getD i true=true)→Q .normal a w)
  (hstep:∀ L a w i,I L a w→i<ops.size→L.getD i true=false→(∀ o,ops[i]? = some o→∀ e∈o.after,Region.binds .any e=true→On L e.on)→wpOp P ops Q i (I (L.setIfInBounds i true)) a w) :
  (Code.region id ops true).wp P Q a w :=
 wp_region_any hm (wpAny_inv I hac hend hstep ops.size _ _ _ (offN_start _) h0)
theorem step_value {i:Nat} {o:Oper} {a:Act} {w w':World} {v:Value} {K:Act→World→Prop} (ho:ops[i]? = some o) (hg:o.guard=none) (hr:(execOp a.eval o).run P w=.ok (.value v) w') (hk:K (a.put o.dst v) w'):wpOp P ops Q i K a w:=by
 unfold wpOp
 simp only [ho]
 rw [if_pos (by simp [Region.wanted,hg])]
 left
 unfold Oper.wp
 rw [hr]; exact hk
theorem step_skip {i:Nat} {o:Oper} {a:Act} {w w':World} {K:Act→World→Prop} (ho:ops[i]? = some o) (hg:o.guard=none) (hr:(execOp a.eval o).run P w=.ok .skip w') (hk:K (a.put o.dst undef) w'):wpOp P ops Q i K a w:=by
 unfold wpOp
 simp only [ho]
 rw [if_pos (by simp [Region.wanted,hg])]
 left
 unfold Oper.wp
 rw [hr]; exact hk
theorem step_enter {i:Nat} {o:Oper} {a:Act} {w w':World} {f:FuncId} {args:Array Value} {K:Act→World→Prop} (ho:ops[i]? = some o) (hg:o.guard=none) (hr:(execOp a.eval o).run P w=.ok (.enter f args) w')
  (hc:Calls P f args w' fun e w''=>∃ v,e=.returned v∧K (a.put o.dst v) w''):wpOp P ops Q i K a w:=by
 unfold wpOp
 simp only [ho]
 rw [if_pos (by simp [Region.wanted,hg])]
 left
 unfold Oper.wp
 rw [hr,Oper.upon_enter]
 refine hc.mono ?_
 rintro e w'' ⟨v,rfl,h⟩
 exact h
end
/-- Every edge points to what stands ahead. -/
def acB (ops:Array Oper):Bool:=(List.range ops.size).all fun i=>match ops[i]? with
 | some o=>o.after.all fun e=>!Region.binds .any e || decide (e.on<i)
 | none=>true
theorem ac_of {ops:Array Oper} (h:acB ops=true):∀ (i:Nat) (o:Oper),ops[i]? = some o→∀ e∈o.after,Region.binds .any e=true→e.on<i:=by
 intro i o ho e he hb
 unfold acB at h
 rw [List.all_eq_true] at h
 have:=h i (List.mem_range.2 (Array.getElem?_eq_some_iff.1 ho).1)
 rw [ho] at this
 simp only [Array.all_eq_true_iff_forall_mem] at this
 have:=this e he
 rw [hb] at this
 simpa using this
/-- The slots: what has been done has its value, all else is as it was. -/
structure Slots (n:Nat) (D:Nat→Option Nat) (V:Nat→Value) (L:Array Bool) (a0 a:Act):Prop where
 size:a.tmps.size=a0.tmps.size
 defers:a.defers=a0.defers
 val:∀ i d,i<n→D i=some d→On L i→a.tmps[d]? = some (V i)
 rest:∀ s,(∀ i,i<n→D i≠some s)→a.tmps[s]? = a0.tmps[s]?
theorem Slots.start (n:Nat) (D:Nat→Option Nat) (V:Nat→Value) (m:Nat) (a:Act):Slots n D V (Array.replicate m false) a a :=
 ⟨rfl,rfl,(fun i d _ _ h=>by
  unfold On at h
  rw [Array.getD_eq_getD_getElem?] at h
  by_cases q:i<m
  ·rw [Array.getElem?_eq_getElem (by simpa using q)] at h; simp at h
  ·rw [Array.getElem?_eq_none (by simpa using q)] at h; cases h),fun _ _=>rfl⟩
theorem Slots.eval {n:Nat} {D:Nat→Option Nat} {V:Nat→Value} {L:Array Bool} {a0 a:Act} (h:Slots n D V L a0 a) (i d:Nat) (hi:i<n) (hd:D i=some d) (ho:On L i):a.eval (.tmp d)=V i:=by
 show a.tmps.getD d undef=_
 rw [Array.getD_eq_getD_getElem?,h.val i d hi hd ho]; rfl
theorem Slots.ext {n:Nat} {D:Nat→Option Nat} {V:Nat→Value} {L:Array Bool} {a0 a:Act} (h:Slots n D V L a0 a) (s:Nat) (hs:∀ i,i<n→D i≠some s):a.eval (.tmp s)=a0.eval (.tmp s):=by
 show a.tmps.getD s undef=a0.tmps.getD s undef
 rw [Array.getD_eq_getD_getElem?,Array.getD_eq_getD_getElem?,h.rest s hs]
theorem Slots.put {n:Nat} {D:Nat→Option Nat} {V V':Nat→Value} {L:Array Bool} {a0 a:Act} (h:Slots n D V L a0 a) (i:Nat) (hi:i<n) (hL:i<L.size) (hinj:∀ j d,j<n→D i=some d→D j=some d→j=i) (hsz:∀ d,D i=some d→d<a0.tmps.size)
  (v:Value) (hv:(D i).isSome=true→v=V' i) (hV:∀ j,j<n→On L j→V j=V' j):Slots n D V' (L.setIfInBounds i true) a0 (a.put (D i) v):=by
 cases hd:D i with
 | none =>
  refine ⟨h.size,h.defers,fun j d hj hjd ho=>?_,h.rest⟩
  rcases on_set ho with q | q
  ·subst q; rw [hd] at hjd; cases hjd
  ·rw [← hV j hj q]; exact h.val j d hj hjd q
 | some d =>
  have hv':v=V' i:=hv (by rw [hd]; rfl)
  refine ⟨?_,h.defers,fun j d' hj hjd ho=>?_,fun s hs=>?_⟩
  ·show (a.tmps.setIfInBounds d v).size=_
   rw [Array.size_setIfInBounds]; exact h.size
  ·show (a.tmps.setIfInBounds d v)[d']? = _
   by_cases q:d=d'
   ·subst q
    obtain rfl:=hinj j d hj hd hjd
    rw [Array.getElem?_setIfInBounds_self_of_lt (by rw [h.size]; exact hsz d hd),hv']
   ·rw [Array.getElem?_setIfInBounds_ne q]
    rcases on_set ho with q2 | q2
    ·subst q2; rw [hd] at hjd; cases hjd; exact absurd rfl q
    ·rw [← hV j hj q2]; exact h.val j d' hj hjd q2
  ·show (a.tmps.setIfInBounds d v)[s]? = _
   rw [Array.getElem?_setIfInBounds_ne (fun e=>hs i hi (by rw [hd,e]))]
   exact h.rest s hs
theorem not_on_start (m i:Nat):¬ On (Array.replicate m false) i:=by
 unfold On
 intro h
 rw [Array.getD_eq_getD_getElem?] at h
 by_cases q:i<m
 ·rw [Array.getElem?_eq_getElem (by simpa using q)] at h; simp at h
 ·rw [Array.getElem?_eq_none (by simpa using q)] at h; cases h
theorem len_cons {α:Type} {n:Nat} {l:List α} (h:l.length=n+1):∃ x t,l=x :: t∧t.length=n:=by
 cases l with
 | nil=>cases h
 | cons x t=>exact ⟨x,t,rfl,by simpa using h⟩
end Go.Proofs.YtmcoomlkbgiboaaGreatDoor

/- Elements of a row that a call owns: stored anew and loaded; one operation of a region that draws its order, as a list of one. No condition. -/
set_option linter.all false
namespace Go.Proofs.YtmcoomlkbgiboaaGreatDoor
open Go.RowKit

/-- What follows one operation. -/
def QK (Q:Exit→Act→World→Prop) (K:Act→World→Prop):Exit→Act→World→Prop
 | .normal,a,w=>K a w
 | e,a,w=>Q e a w
/-- One operation of a region, walked as a list of one. -/
theorem op_list {P:Program} {ops:Array Oper} {Q:Exit→Act→World→Prop} {i:Nat} {o:Oper} {K:Act→World→Prop} {a:Act} {w:World} (ho:ops[i]? = some o) (h:wpList P ops (QK Q K) [o] a w):wpOp P ops Q i K a w:=by
 unfold wpOp
 simp only [ho]
 unfold wpList at h
 have hK:wpList P ops (QK Q K) []=K:=by funext a w; rfl
 rw [hK] at h
 have hu:∀ r,o.upon P a K (QK Q K) r→o.upon P a K Q r:=by
  intro r hr
  unfold Oper.upon at hr ⊢
  revert hr
  split <;> exact fun h=>h
 split
 ·rename_i hw
  rw [if_pos hw] at h
  rcases h with h | ⟨h1,h2⟩
  ·exact .inl (hu _ h)
  ·exact .inr ⟨h1,h2⟩
 ·rename_i hw
  rw [if_neg hw] at h
  exact h
theorem own_part {w:World} {base g n cap size:Nat} {e:TypeId} {xs:List Value} (h:w.ownsRow base e size (.slice (some ⟨g,0,none⟩) n cap) n xs) (o:Nat) (vs:List Value) (ho:o+vs.length≤n * size) :
  (w.setCells g o vs).ownsRow base e size (.slice (some ⟨g,0,none⟩) n cap) n (xs.take o ++ (vs ++ xs.drop (o+vs.length))):=by
 obtain ⟨hl,h⟩:=h
 refine ⟨by rw [List.length_append,List.length_append,List.length_take,List.length_drop]; omega,?_⟩
 rcases h with ⟨hv,_⟩ | ⟨g',cap',cur,hv,hb,hg,hn,hm,hs,hx⟩
 ·cases hv
 ·obtain ⟨e1,_,e3⟩:=Value.slice.inj hv
  obtain rfl:g=g':=by cases e1; rfl
  subst e3
  have hsz:n * size≤cap * size:=Nat.mul_le_mul_right _ hn
  refine .inr ⟨g,cap,_,rfl,hb,blk_part (w:=w) (R:=g) (ty:=e) (old:=cur) hg o vs (by omega),hn,hm,?_,?_⟩
  ·unfold putC
   rw [List.size_toArray,List.length_append,List.length_append,List.length_take,List.length_drop,Array.length_toList]; omega
  ·unfold putC
   have hll:cur.toList.length=cur.size:=Array.length_toList
   show List.take (n * size) (cur.toList.take o ++ (vs ++ cur.toList.drop (o+vs.length)))=_
   rw [← hx,List.take_append,List.take_take,List.take_append,List.length_take,Nat.min_eq_left (show o≤cur.toList.length by omega),List.take_take,Nat.min_eq_right (show o≤n * size by omega),Nat.min_eq_left (show o≤n * size by omega),List.take_of_length_le (show vs.length≤n * size - o by omega),List.drop_take]
   rw [show n * size - o - vs.length=n * size - (o+vs.length) by omega]
theorem flat_set {k:Nat}:∀ (css:List (List Value)),(∀ cs∈css,cs.length=k)→∀ (j:Nat) (cs:List Value),j<css.length→cs.length=k →
  (css.set j cs).flatten=css.flatten.take (j * k) ++ (cs ++ css.flatten.drop (j * k+cs.length))
 | [],_,_,_,h,_=>by cases h
 | c :: css,hl,0,cs,_,hc=>by
  have:=hl c (by simp)
  rw [List.set_cons_zero,List.flatten_cons,List.flatten_cons,Nat.zero_mul,List.take_zero,List.nil_append,Nat.zero_add,hc,← this,List.drop_left]
 | c :: css,hl,j+1,cs,h,hc=>by
  have hk:=hl c (by simp)
  have ih:=flat_set css (fun x hx=>hl x (List.mem_cons_of_mem _ hx)) j cs (by simpa using h) hc
  have a1:(c ++ css.flatten).take ((j+1) * k)=c ++ css.flatten.take (j * k):=by
   rw [show (j+1) * k=c.length+j * k by rw [hk,Nat.succ_mul]; omega,List.take_length_add_append]
  have a2:(c ++ css.flatten).drop ((j+1) * k+cs.length)=css.flatten.drop (j * k+cs.length):=by
   rw [show (j+1) * k+cs.length=c.length+(j * k+cs.length) by rw [hk,Nat.succ_mul]; omega,List.drop_length_add_append]
  rw [List.set_cons_succ,List.flatten_cons,List.flatten_cons,ih,a1,a2,List.append_assoc]
section
variable {α:Type} {R:(Nat→Prop)→World→List Value→α→Prop} {k:Nat} {A:Nat→Prop} {base:Nat} {e:TypeId} {w w':World} {v:Value} {xs:List α}
/-- Where the element j of an own row lies. -/
theorem OutG.at_ {a:Option Addr} {n cap:Nat} (h:OutG R k A base e w (.slice a n cap) xs) (j:Nat) (x:α) (hx:xs[j]? = some x):∃ g cs,a=some ⟨g,0,none⟩∧base≤g∧g<w.heap.size∧n=xs.length∧xs.length≤cap∧cs.length=k∧(∀ i u,cs[i]? = some u→w.cell? ⟨g,j * k+i,none⟩=some u)∧R (fun g'=>A g'∧g≠g') w cs x:=by
 obtain ⟨css,h1,h2,ho,h4⟩:=h
 obtain ⟨a',c,hv,hc,_,h3⟩:=own_cap ho
 obtain ⟨rfl,rfl,rfl⟩:=Value.slice.inj hv
 have hj:=(List.getElem?_eq_some_iff.1 hx).1
 obtain ⟨g,rfl,hb,hg,hcell⟩:=h3 (by omega)
 have hcs:css[j]? = some (css[j]'(by omega)):=List.getElem?_eq_getElem (by omega)
 have hr:=h4 j _ x hcs hx
 have hR:R (fun g'=>A g'∧g≠g') w (css[j]'(by omega)) x:=by
  have e1:(fun g'=>A g'∧(Value.slice (some ⟨g,0,none⟩) xs.length cap).ownBlock≠some g')=(fun g'=>A g'∧g≠g'):=by
   funext g'; simp [Value.ownBlock]
  rw [← e1]; exact hr
 exact ⟨g,_,rfl,hb,hg,rfl,hc,h2 _ (List.getElem_mem _),fun i u hu=>hcell _ u (flat_at css h2 j _ hcs i u hu),hR⟩
/-- The element j is put anew. -/
theorem OutG.put {g n cap:Nat} (hR:ReadK R) (h:OutG R k A base e w (.slice (some ⟨g,0,none⟩) n cap) xs) (j:Nat) (hj:j<xs.length) (cs:List Value) (y:α) (hc:cs.length=k) (hy:R (fun g'=>A g'∧g≠g') w cs y) :
  OutG R k A base e (w.setCells g (j * k) cs) (.slice (some ⟨g,0,none⟩) n cap) (xs.set j y):=by
 obtain ⟨css,h1,h2,ho,h4⟩:=h
 have hn:n=xs.length:=by
  obtain ⟨a',c,hv,_⟩:=own_cap ho
  exact (Value.slice.inj hv).2.1
 subst hn
 have hl:j * k+cs.length≤xs.length * k:=by
  have:(j+1) * k≤xs.length * k:=Nat.mul_le_mul_right _ hj
  rw [Nat.succ_mul] at this; omega
 have hsam:Sam (fun g'=>A g'∧g≠g') w (w.setCells g (j * k) cs):=Sam.only (only_cells cs (j * k) w) (fun g' _ hs q=>hs.2 q.symm)
 have e1:∀ c,(fun g'=>A g'∧(Value.slice (some ⟨g,0,none⟩) c cap).ownBlock≠some g')=(fun g'=>A g'∧g≠g'):=by
  intro c; funext g'; simp [Value.ownBlock]
 refine ⟨css.set j cs,by simp [h1],fun c hcs=>?_,?_,fun i c x hci hx=>?_⟩
 ·rcases List.mem_or_eq_of_mem_set hcs with q | q
  ·exact h2 c q
  ·rw [q]; exact hc
 ·rw [flat_set css h2 j cs (by omega) hc,List.length_set]
  exact own_part ho (j * k) cs hl
 ·rw [e1]
  by_cases q:j=i
  ·subst q
   rw [List.getElem?_set_self (by omega)] at hci
   rw [List.getElem?_set_self hj] at hx
   cases hci; cases hx
   exact hR.sam hy hsam (fun _ _ h=>h)
  ·rw [List.getElem?_set_ne q] at hci hx
   have:=h4 i c x hci hx
   rw [e1] at this
   exact hR.sam this hsam (fun _ _ h=>h)
theorem OutG.there {g n cap:Nat} (h:OutG R k A base e w (.slice (some ⟨g,0,none⟩) n cap) xs) (j:Nat) (hj:j<xs.length):w.there g (j * k) k:=by
 obtain ⟨css,h1,h2,ho,h4⟩:=h
 obtain ⟨hl,h⟩:=ho
 rcases h with ⟨hv,_⟩ | ⟨g',cap',cur,hv,hb,hg,hn,hm,hs,hx⟩
 ·cases hv
 ·obtain ⟨e1,e2,e3⟩:=Value.slice.inj hv
  obtain rfl:g=g':=by cases e1; rfl
  have hB:Blk w g e cur:=hg
  have h1:(j+1) * k≤cap' * k:=Nat.mul_le_mul_right _ (by omega)
  rw [Nat.succ_mul] at h1
  exact fun i hi=>⟨by rw [hB.cell (j * k+i) (cur[j * k+i]'(by omega)) (by rw [Array.getElem?_eq_getElem])]; rfl,hB.free _⟩
/-- An element of an own row is stored anew. -/
theorem wpList_store_out {P:Program} (hR:ReadK R) {ops:Array Oper} {rest:List Oper} {o:Oper} {a:Act} {Q:Exit→Act→World→Prop} (hgd:o.guard=none) (x y:Operand) (ho:o.op=.store e x y)
  {g n cap:Nat} (h0:OutG R k A base e w (.slice (some ⟨g,0,none⟩) n cap) xs) (j:Nat) (hj:j<xs.length) (cs:List Value) (z:α) (hx:a.eval x=.pointer (some ⟨g,j * k,none⟩)) (hy:a.eval y=.agg cs.toArray) (hc:cs.length=k) (hi:(P.info? e).map (·.size)=some k)
  (hz:R (fun g'=>A g'∧g≠g') w cs z)
  (h:∀ w',OutG R k A base e w' (.slice (some ⟨g,0,none⟩) n cap) (xs.set j z)→Only (fun i=>i=g) w w'→wpList P ops Q rest (a.put o.dst undef) w'):wpList P ops Q (o :: rest) a w:=by
 have ht:=h0.there j hj
 refine wpList_store_mid hgd e x y ho g (j * k) cs.toArray hx hy ?_ ?_ (all_oneCell_toArray (hR.one hz)) (h _ ?_ ?_)
 ·rw [List.size_toArray,hc]; exact ht
 ·rw [List.size_toArray,hc]; exact hi
 ·exact OutG.put hR h0 j hj cs z hc hz
 ·exact only_cells _ _ _
end
end Go.Proofs.YtmcoomlkbgiboaaGreatDoor

/- An inline appended behind a pointer, in a region that draws its order. Conditions: lengths. -/
set_option linter.all false
namespace Go.Proofs.YtmcoomlkbgiboaaGreatDoor
open Go.RowKit

theorem Tryz.sizeIn:(Tryz.prog.info? 71).map (fun x=>x.size)=some 10:=by kernel_rfl
theorem Tryz.infoIn:(Tryz.prog.info? 71).map (fun i=>(i.zero,i.size,i.bytes))=some (some (.agg #[.int .i64 0,.string ⟨#[]⟩,.string ⟨#[]⟩,.string ⟨#[]⟩,.string ⟨#[]⟩,.slice none 0 0,.slice none 0 0,.slice none 0 0,.slice none 0 0,.slice none 0 0]),10,192):=by kernel_rfl
/-- The cells of an inline that is zero. -/
def zeroIn:List Value:=[.int .i64 0,.string ⟨#[]⟩,.string ⟨#[]⟩,.string ⟨#[]⟩,.string ⟨#[]⟩,.slice none 0 0,.slice none 0 0,.slice none 0 0,.slice none 0 0,.slice none 0 0]
theorem zero_in (n:Nat) (S:Nat→Prop) (w:World):InlK n S w zeroIn (.mk 0 [] [] [] [] [] [] [] [] []) :=
 ⟨_,_,_,_,_,rfl,⟨Strs.none_ w,InB.nil _ _⟩,⟨Prs.none_ w,InB.nil _ _⟩,⟨Strs.none_ w,InB.nil _ _⟩,RowR.none_ _ _ _ _,Lns.none_ _ _ _⟩
theorem put_at (a:Act) (d:Nat) (v:Value) (s:Nat) (h:d<a.tmps.size):(a.put (some d) v).tmps[s]? = if s=d then some v else a.tmps[s]?:=by
 show (a.tmps.setIfInBounds d v)[s]? = _
 by_cases q:s=d
 ·subst q; rw [if_pos rfl,Array.getElem?_setIfInBounds_self_of_lt h]
 ·rw [if_neg q,Array.getElem?_setIfInBounds_ne (fun e=>q e.symm)]
theorem put_size (a:Act) (d:Nat) (v:Value):(a.put (some d) v).tmps.size=a.tmps.size:=by
 show (a.tmps.setIfInBounds d v).size=_
 rw [Array.size_setIfInBounds]
theorem act_ext {a b:Act} (h1:a.defers=b.defers) (h2:∀ s:Nat,a.tmps[s]? = b.tmps[s]?):a=b:=by
 obtain ⟨t,d⟩:=a
 obtain ⟨t',d'⟩:=b
 obtain rfl:t=t':=Array.ext_getElem? h2
 obtain rfl:d=d':=h1
 rfl
theorem slots6 {D:Nat→Option Nat} {V:Nat→Value} {L:Array Bool} {a0 a:Act} (S:Slots 8 D V L a0 a) (hD:∀ i,D i=if i<6 then some (27+i) else none) (hon:∀ i,i<8→On L i) (hz:33≤a0.tmps.size):a=(((((a0.put (some 27) (V 0)).put (some 28) (V 1)).put (some 29) (V 2)).put (some 30) (V 3)).put (some 31) (V 4)).put (some 32) (V 5):=by
 have hdf:∀ (b:Act) (d:Nat) (u:Value),(b.put (some d) u).defers=b.defers:=fun _ _ _=>rfl
 refine act_ext (by rw [hdf,hdf,hdf,hdf,hdf,hdf]; exact S.defers) (fun s=>?_)
 have v (i:Nat) (h:i<6):=S.val i (27+i) (by omega) (by rw [hD,if_pos h]) (hon i (by omega))
 rw [put_at _ _ _ _ (by simp only [put_size]; omega)]
 by_cases q5:s=32
 ·subst q5; rw [if_pos rfl]; exact v 5 (by omega)
 rw [if_neg q5,put_at _ _ _ _ (by simp only [put_size]; omega)]
 by_cases q4:s=31
 ·subst q4; rw [if_pos rfl]; exact v 4 (by omega)
 rw [if_neg q4,put_at _ _ _ _ (by simp only [put_size]; omega)]
 by_cases q3:s=30
 ·subst q3; rw [if_pos rfl]; exact v 3 (by omega)
 rw [if_neg q3,put_at _ _ _ _ (by simp only [put_size]; omega)]
 by_cases q2:s=29
 ·subst q2; rw [if_pos rfl]; exact v 2 (by omega)
 rw [if_neg q2,put_at _ _ _ _ (by simp only [put_size]; omega)]
 by_cases q1:s=28
 ·subst q1; rw [if_pos rfl]; exact v 1 (by omega)
 rw [if_neg q1,put_at _ _ _ _ (by omega)]
 by_cases q0:s=27
 ·subst q0; rw [if_pos rfl]; exact v 0 (by omega)
 rw [if_neg q0]
 refine S.rest s (fun i hi h=>?_)
 rw [hD] at h
 by_cases q:i<6
 ·rw [if_pos q] at h
  have:=Option.some.inj h; omega
 ·rw [if_neg q] at h; cases h
def puD (i:Nat):Option Nat:=if i<6 then some (27+i) else none
def puV (v:Value) (cells:List Value) (m Z g cap:Nat):Nat→Value
 | 0=>v
 | 1=>.agg cells.toArray
 | 2=>.int .i64 m
 | 3=>.slice (some ⟨Z,0,none⟩) 1 1
 | 4=>.slice (some ⟨g,0,none⟩) (m+1) cap
 | _=>.pointer (some ⟨g,m * 10,none⟩)
theorem puV_eq (v:Value) (cells:List Value) (m Z g cap g' cap':Nat) (j:Nat) (h:j<4):puV v cells m Z g cap j=puV v cells m Z g' cap' j:=by
 match j,h with
 | 0,_ | 1,_ | 2,_ | 3,_=>rfl
open Classical in
theorem ifc {α:Type} {p q:Prop} (h:p↔q) (a b:α):(if p then a else b)=if q then a else b:=by
 by_cases r:p
 ·rw [if_pos r,if_pos (h.1 r)]
 ·rw [if_neg r,if_neg (fun s=>r (h.2 s))]
open Classical in
/-- What is known between the operations. -/
structure PuJ (A:Nat→Prop) (N O I Z base:Nat) (v:Value) (xs:List Inl) (cells:List Value) (x:Inl) (w6:World) (a0:Act) (L:Array Bool) (a:Act) (w:World) (g cap:Nat):Prop where
 size:L.size=8
 slots:Slots 8 puD (puV v cells xs.length Z g cap) L a0 a
 c4:On L 4→∀ j,j<4→On L j
 c5:On L 5→On L 4
 c6:On L 6→On L 4
 c7:On L 7→On L 4
 lo:¬ On L 4→Kept w6 w∧(¬ On L 3→w.heap.size=Z)∧(On L 3→Blk w Z 71 zeroIn.toArray)
 hi:On L 4→OutG (InlK N) 10 A base 71 w (.slice (some ⟨g,0,none⟩) (xs.length+1) cap) (xs ++ [if On L 6 then x else .mk 0 [] [] [] [] [] [] [] [] []])∧Blk w O 57 #[if On L 7 then .slice (some ⟨g,0,none⟩) (xs.length+1) cap else v]∧Blk w I 71 cells.toArray∧InlK N (fun g'=>A g'∧g≠g') w cells x∧Only (fun i=>i=O∨base≤i) w6 w∧g≠I
def PuI (A:Nat→Prop) (N O I Z base:Nat) (v:Value) (xs:List Inl) (cells:List Value) (x:Inl) (w6:World) (a0:Act) (L:Array Bool) (a:Act) (w:World):Prop:=∃ g cap,PuJ A N O I Z base v xs cells x w6 a0 L a w g cap
theorem puD_inj (i:Nat):∀ j d,j<8→puD i=some d→puD j=some d→j=i:=by
 intro j d _ h1 h2
 unfold puD at h1 h2
 split at h1 <;> split at h2 <;> simp_all
 omega
theorem puD_lt (n i:Nat) (hz:33≤n):∀ d,puD i=some d→d<n:=by
 intro d h1
 unfold puD at h1
 split at h1 <;> simp at h1
 omega
theorem pu_quiet {A:Nat→Prop} {N O I Z base:Nat} {v:Value} {xs:List Inl} {cells:List Value} {x:Inl} {w6:World} {a0:Act} {L:Array Bool} {a:Act} {w:World} {g cap:Nat} (h:PuJ A N O I Z base v xs cells x w6 a0 L a w g cap) (hz:33≤a0.tmps.size) (i:Nat) (hi:i<8) (h3:i≠3) (h4:i≠4) (h6:i≠6) (h7:i≠7) (h5:i=5→On L 4) :
  PuI A N O I Z base v xs cells x w6 a0 (L.setIfInBounds i true) (a.put (puD i) (puV v cells xs.length Z g cap i)) w:=by
 refine ⟨g,cap,?_,h.slots.put i hi (by rw [h.size]; exact hi) (puD_inj i) (puD_lt _ i hz) _ (fun _=>rfl) (fun _ _ _=>rfl),?_,?_,?_,?_,?_,?_⟩
 ·rw [Array.size_setIfInBounds]; exact h.size
 ·intro q j hj
  exact on_mono (h.c4 ((on_ne h4).1 q) j hj)
 ·intro q
  rcases on_set q with q | q
  ·exact on_mono (h5 q.symm)
  ·exact on_mono (h.c5 q)
 ·intro q; exact on_mono (h.c6 ((on_ne h6).1 q))
 ·intro q; exact on_mono (h.c7 ((on_ne h7).1 q))
 ·intro q
  obtain ⟨k1,k2,k3⟩:=h.lo (fun r=>q (on_mono r))
  exact ⟨k1,fun r=>k2 (fun r'=>r (on_mono r')),fun r=>k3 ((on_ne h3).1 r)⟩
 ·intro q
  have:=h.hi ((on_ne h4).1 q)
  rw [ifc (on_ne h6),ifc (on_ne h7)]
  exact this
set_option maxRecDepth 100000 in
set_option maxHeartbeats 3200000 in
theorem push_region {A:Nat→Prop} {N O I base:Nat} {v:Value} {xs:List Inl} {cells:List Value} {x:Inl} {w:World} {a:Act} {Q:Exit→Act→World→Prop} {id:Nat} {o0 o1 o2 o3 o4 o5 o6 o7:Oper}
  (p0:o0.op=.load 57 (.tmp 1)) (p1:o1.op=.load 71 (.tmp 5)) (p2:o2.op=.call { callee:=.builtin .len,args:=#[.tmp 27],argTypes:=#[57] })
  (p3:o3.op=.buildSlice 57 1 #[(0,.const (.agg zeroIn.toArray))]) (p4:o4.op=.call { callee:=.builtin .append,args:=#[.tmp 27,.tmp 30],argTypes:=#[57,57] })
  (p5:o5.op=.indexAddr 57 (.tmp 31) (.tmp 29)) (p6:o6.op=.store 71 (.tmp 32) (.tmp 28)) (p7:o7.op=.store 57 (.tmp 1) (.tmp 31))
  (q0:o0.guard=none) (q1:o1.guard=none) (q2:o2.guard=none) (q3:o3.guard=none) (q4:o4.guard=none) (q5:o5.guard=none) (q6:o6.guard=none) (q7:o7.guard=none)
  (d0:o0.dst=some 27) (d1:o1.dst=some 28) (d2:o2.dst=some 29) (d3:o3.dst=some 30) (d4:o4.dst=some 31) (d5:o5.dst=some 32) (d6:o6.dst=none) (d7:o7.dst=none)
  (hm:Tryz.prog.follows .mixedOrders=true) (hac:acB #[o0,o1,o2,o3,o4,o5,o6,o7]=true)
  (e2:⟨0,.data⟩∈o2.after) (e40:⟨0,.data⟩∈o4.after) (e43:⟨3,.data⟩∈o4.after) (e41:⟨1,.phase⟩∈o4.after) (e42:⟨2,.phase⟩∈o4.after) (e54:⟨4,.data⟩∈o5.after) (e52:⟨2,.data⟩∈o5.after) (e65:⟨5,.data⟩∈o6.after) (e61:⟨1,.data⟩∈o6.after) (e64:⟨4,.chain⟩∈o6.after) (e74:⟨4,.data⟩∈o7.after)
  (hz:33≤a.tmps.size) (hx1:a.eval (.tmp 1)=.pointer (some ⟨O,0,none⟩)) (hx5:a.eval (.tmp 5)=.pointer (some ⟨I,0,none⟩))
  (hcl:cells.length=10) (hO:Blk w O 57 #[v]) (hI:Blk w I 71 cells.toArray) (hv:OutG (InlK N) 10 A base 71 w v xs)
  (hAO:∀ g,A g→g≠O) (hvO:v.ownBlock≠some O) (hvI:v.ownBlock≠some I) (hOI:O≠I) (hOb:O<base) (hbI:base≤I) (hy:InlK N (fun g=>A g∧v.ownBlock≠some g) w cells x) (hlen:xs.length+1≤1000001)
  (h:∀ u0 u1 u2 u3 u4 u5 g cap w',OutG (InlK N) 10 A base 71 w' (.slice (some ⟨g,0,none⟩) (xs.length+1) cap) (xs ++ [x])→Blk w' O 57 #[.slice (some ⟨g,0,none⟩) (xs.length+1) cap]→Only (fun i=>i=O∨base≤i) w w' →
   Q .normal ((((((a.put (some 27) u0).put (some 28) u1).put (some 29) u2).put (some 30) u3).put (some 31) u4).put (some 32) u5) w') :
  (Code.region id #[o0,o1,o2,o3,o4,o5,o6,o7] true).wp Tryz.prog Q a w:=by
 obtain ⟨i0,hi,hz0,hz1,hz2⟩:=info_parts Tryz.infoIn
 have hbase:base≤w.heap.size:=by have:=hI.lt; omega
 refine wp_region_inv (PuI A N O I w.heap.size base v xs cells x w a) hm (ac_of hac) ?_ ?_ ?_
 ·have hno:∀ i,¬ On (Array.replicate 8 false) i:=fun i=>not_on_start 8 i
  exact ⟨0,0,rfl,Slots.start 8 puD _ 8 a,fun q=>absurd q (hno _),fun q=>absurd q (hno _),fun q=>absurd q (hno _),fun q=>absurd q (hno _),fun _=>⟨kept_drewN w 1,fun _=>rfl,fun q=>absurd q (hno _)⟩,fun q=>absurd q (hno _)⟩
 ·intro L a1 w1 hI hall
  obtain ⟨g,cap,J⟩:=hI
  have hon:∀ i,i<8→On L i:=fun i hi=>by
   have:=hall i hi
   have hlt:i<L.size:=by have:=J.size; omega
   unfold On
   rw [Array.getD_eq_getD_getElem?,Array.getElem?_eq_getElem hlt] at this ⊢
   exact this
  obtain ⟨r1,r2,_,_,r5,_⟩:=J.hi (hon 4 (by omega))
  rw [if_pos (hon 6 (by omega))] at r1
  rw [if_pos (hon 7 (by omega))] at r2
  rw [slots6 J.slots (fun i=>rfl) hon hz]
  exact h _ _ _ _ _ _ g cap w1 r1 r2 r5
 ·intro L a1 w1 i hII hi8 hn hed
  obtain ⟨g,cap,J⟩:=hII
  have S:=J.slots
  have n0:=not_on hn
  have sx1:=(S.ext 1 (by intro i _; unfold puD; split <;> simp; omega)).trans hx1
  have sx5:=(S.ext 5 (by intro i _; unfold puD; split <;> simp; omega)).trans hx5
  replace hi8:i<8:=hi8
  obtain rfl | rfl | rfl | rfl | rfl | rfl | rfl | rfl:i=0∨i=1∨i=2∨i=3∨i=4∨i=5∨i=6∨i=7:=by omega
  · -- load of the list
   have n4:¬ On L 4:=fun q=>n0 (J.c4 q 0 (by omega))
   obtain ⟨hk,-,-⟩:=J.lo n4
   have t:=(hO.kept hk).cell 0 _ rfl
   refine step_value (o:=o0) rfl q0 (v:=v) (w':=w1) ?_ ?_
   ·simp only [execOp,p0,sx1]; simp [go_sem,t,Tryz.underlying57]
   ·rw [d0]; exact pu_quiet J hz 0 (by omega) (by omega) (by omega) (by omega) (by omega) (by omega)
  · -- load of the element
   have n4:¬ On L 4:=fun q=>n0 (J.c4 q 1 (by omega))
   obtain ⟨hk,-,-⟩:=J.lo n4
   refine op_list (o:=o1) rfl ?_
   refine wpList_load_blk q1 71 (.tmp 5) p1 I cells.toArray sx5 (hI.kept hk) _ Tryz.underlying71 rfl ?_ ?_
   ·rw [List.size_toArray,hcl]; exact Tryz.sizeIn
   ·rw [d1]; exact pu_quiet J hz 1 (by omega) (by omega) (by omega) (by omega) (by omega) (by omega)
  · -- its length
   have z:a1.eval (.tmp 27)=v:=S.eval 0 27 (by omega) rfl (hed _ rfl _ e2 rfl)
   obtain ⟨av,cv,hvv,_,_⟩:=hv.form
   refine step_value (o:=o2) rfl q2 (v:=.int .i64 xs.length) (w':=w1) ?_ ?_
   ·simp only [execOp,p2,resolve,invoke,builtin,Sem.run_bind,Sem.run_pure,Result.andThen_ok,List.map_toArray,List.map_cons,List.map_nil,z,hvv]; simp [go_sem,Tryz.underlying57]
   ·rw [d2]; exact pu_quiet J hz 2 (by omega) (by omega) (by omega) (by omega) (by omega) (by omega)
  · -- a row of one
   have n4:¬ On L 4:=fun q=>n0 (J.c4 q 3 (by omega))
   obtain ⟨hk,hsz,-⟩:=J.lo n4
   replace hsz:=hsz n0
   refine op_list (o:=o3) rfl ?_
   refine wpList_buildSlice q3 57 71 1 _ p3 zeroIn.toArray i0 _ Tryz.underlying57 hi hz0 (by rw [hz1]; decide) (by rw [hz1]; decide) (by rw [hz1]; kernel_rfl) ?_
   rw [d3,hsz]
   refine ⟨g,cap,by rw [Array.size_setIfInBounds]; exact J.size,S.put 3 (by omega) (by rw [J.size]; omega) (puD_inj 3) (puD_lt _ 3 hz) _ (fun _=>rfl) (fun _ _ _=>rfl),fun q=>absurd ((on_ne (by omega)).1 q) n4,fun q=>absurd (J.c5 ((on_ne (by omega)).1 q)) n4,fun q=>absurd (J.c6 ((on_ne (by omega)).1 q)) n4,fun q=>absurd (J.c7 ((on_ne (by omega)).1 q)) n4,fun _=>⟨hk.trans (kept_alloc _ _),fun q=>absurd (on_same (by rw [J.size]; omega)) q,fun _=>?_⟩,fun q=>absurd ((on_ne (by omega)).1 q) n4⟩
   have:=Blk.new w1 71 zeroIn.toArray
   rw [hsz] at this
   exact this
  · -- the append
   have f0:=hed _ rfl _ e40 rfl
   have f1:=hed _ rfl _ e41 rfl
   have f2:=hed _ rfl _ e42 rfl
   have f3:=hed _ rfl _ e43 rfl
   obtain ⟨hk,-,hzb⟩:=J.lo n0
   have hzb:=hzb f3
   have z0:a1.eval (.tmp 27)=v:=S.eval 0 27 (by omega) rfl f0
   have z3:a1.eval (.tmp 30)=.slice (some ⟨w.heap.size,0,none⟩) 1 1:=S.eval 3 30 (by omega) rfl f3
   have hv1:=hv.kept (inlK N) hk
   refine op_list (o:=o4) rfl ?_
   refine wpList_append_out (inlK N) q4 (.tmp 27) (.tmp 30) 57 p4 i0 _ 192 Tryz.underlying57 hi hz0 hz1 hz2 rfl (by omega) z0 hv1 w.heap.size zeroIn (.mk 0 [] [] [] [] [] [] [] [] []) z3 (fun j u hu=>hzb.cell j u (by rw [List.getElem?_toArray]; exact hu)) rfl (zero_in _ _ _) (by unfold maxLen; omega) (by omega) (Nat.le_trans hbase hk.size) _ rfl ?_
   intro g2 cap2 w2 hout hgrow hat hlt
   have hon:=Only.grown hgrow
   have hg2:g2≠I∧∀ g',v.ownBlock≠some g'→g'<w.heap.size→g2≠g':=by
    refine ⟨?_,fun g' hne hl=>?_⟩
    ·rcases hat with q | q
     ·intro e; exact hvI (by rw [q,e])
     ·have:=hI.lt; have:=hk.size; omega
    ·rcases hat with q | q
     ·intro e; exact hne (by rw [q,e])
     ·have:=hk.size; omega
   have n6:¬ On L 6:=fun q=>n0 (J.c6 q)
   have n7:¬ On L 7:=fun q=>n0 (J.c7 q)
   show PuI _ _ _ _ _ _ _ _ _ _ _ _ _ _ _
   rw [d4]
   refine ⟨g2,cap2,by rw [Array.size_setIfInBounds]; exact J.size,S.put 4 (by omega) (by rw [J.size]; omega) (puD_inj 4) (puD_lt _ 4 hz) _ (fun _=>rfl) (fun j hj ho=>?_),fun _ j hj=>on_mono ?_,fun q=>absurd (J.c5 ((on_ne (by omega)).1 q)) n0,fun q=>absurd (J.c6 ((on_ne (by omega)).1 q)) n0,fun q=>absurd (J.c7 ((on_ne (by omega)).1 q)) n0,fun q=>absurd (on_same (by rw [J.size]; omega)) q,fun _=>?_⟩
   ·refine puV_eq _ _ _ _ _ _ _ _ j ?_
    rcases Nat.lt_or_ge j 4 with q | q
    ·exact q
    ·exfalso
     obtain rfl | rfl | rfl | rfl:j=4∨j=5∨j=6∨j=7:=by omega
     ·exact n0 ho
     ·exact n0 (J.c5 ho)
     ·exact n6 ho
     ·exact n7 ho
   ·obtain rfl | rfl | rfl | rfl:j=0∨j=1∨j=2∨j=3:=by omega
    ·exact f0
    ·exact f1
    ·exact f2
    ·exact f3
   ·rw [if_neg (fun q=>n6 ((on_ne (by omega)).1 q)),if_neg (fun q=>n7 ((on_ne (by omega)).1 q))]
    have hO1:=hO.kept hk
    have hI1:=hI.kept hk
    refine ⟨hout,?_,?_,?_,?_,hg2.1⟩
    ·show w2.heap[O]? = _
     rw [hon.block O hO1.lt (fun q=>hvO q.symm)]; exact hO1
    ·show w2.heap[I]? = _
     rw [hon.block I hI1.lt (fun q=>hvI q.symm)]; exact hI1
    ·have hy1:=(inlK N).sam hy (Sam.kept hk) (fun _ _ q=>q)
     have hy2:InlK N (fun g=>g<w.heap.size∧A g∧v.ownBlock≠some g) w cells x:=(inlK N).sam hy (fun _ _ _=>rfl) (fun g hg q=>⟨hg,q⟩)
     exact (inlK N).sam ((inlK N).sam hy2 (Sam.kept hk) (fun _ _ q=>q)) (Sam.only hon (fun g _ q r=>q.2.2 r.symm)) (fun g' _ q=>⟨q.2.1,hg2.2 g' q.2.2 q.1⟩)
    ·refine (Only.of_kept hk).trans (hon.mono (fun i _ q=>.inr (hv.blk i q.symm).1))
  · -- the new element's place
   have f4:=hed _ rfl _ e54 rfl
   have z4:=S.eval 4 31 (by omega) rfl f4
   have z2:=S.eval 2 29 (by omega) rfl (hed _ rfl _ e52 rfl)
   obtain ⟨hout,-⟩:=J.hi f4
   obtain ⟨_,_,hvv,hcap,hmax⟩:=hout.form
   refine step_value (o:=o5) rfl q5 (v:=.pointer (some ⟨g,xs.length * 10,none⟩)) (w':=w1) ?_ ?_
   ·simp only [execOp,p5,z4,z2,puV]; simp [go_sem,Tryz.underlying57,Tryz.sizeIn]; intro hh; omega
   ·rw [d5]; exact pu_quiet J hz 5 (by omega) (by omega) (by omega) (by omega) (by omega) (fun _=>f4)
  · -- the element is stored
   have f5:=hed _ rfl _ e65 rfl
   have f4:=J.c5 f5
   have z5:=S.eval 5 32 (by omega) rfl f5
   have z1:=S.eval 1 28 (by omega) rfl (hed _ rfl _ e61 rfl)
   obtain ⟨hout,hO1,hI1,hy1,hon,hgI⟩:=J.hi f4
   rw [if_neg n0] at hout
   have hgb:=hout.blk g rfl
   refine op_list (o:=o6) rfl ?_
   refine wpList_store_out (inlK N) q6 (.tmp 32) (.tmp 28) p6 hout xs.length (by simp) cells x z5 z1 hcl Tryz.sizeIn hy1 ?_
   intro w2 hout2 hon2
   rw [List.set_append_right _ _ (Nat.le_refl _),Nat.sub_self,List.set_cons_zero] at hout2
   show PuI _ _ _ _ _ _ _ _ _ _ _ _ _ _ _
   rw [d6]
   refine ⟨g,cap,by rw [Array.size_setIfInBounds]; exact J.size,S.put 6 (by omega) (by rw [J.size]; omega) (puD_inj 6) (puD_lt _ 6 hz) _ (fun q=>by cases q) (fun _ _ _=>rfl),fun _ j hj=>on_mono (J.c4 f4 j hj),fun _=>on_mono f4,fun _=>on_mono f4,fun _=>on_mono f4,fun q=>absurd (on_mono f4) q,fun _=>?_⟩
   rw [if_pos (on_same (by rw [J.size]; omega)),ifc (on_ne (by omega))]
   refine ⟨hout2,?_,?_,(inlK N).sam hy1 (Sam.only hon2 (fun g' _ q r=>q.2 r.symm)) (fun _ _ q=>q),hon.trans (hon2.mono (fun i _ q=>.inr (by omega))),hgI⟩
   ·show w2.heap[O]? = _
    rw [hon2.block O hO1.lt (by omega)]; exact hO1
   ·show w2.heap[I]? = _
    rw [hon2.block I hI1.lt (fun q=>hgI q.symm)]; exact hI1
  · -- the list is stored
   have f4:=hed _ rfl _ e74 rfl
   have z4:=S.eval 4 31 (by omega) rfl f4
   obtain ⟨hout,hO1,hI1,hy1,hon,hgI⟩:=J.hi f4
   rw [if_neg n0] at hO1
   have hgb:=hout.blk g rfl
   have t:=hO1.cell 0 _ rfl
   have fr:=hO1.free 0
   have on2:=Only.setCell (w:=w1) O 0 (.slice (some ⟨g,0,none⟩) (xs.length+1) cap)
   refine step_skip (o:=o7) rfl q7 (w':=w1.setCell ⟨O,0,none⟩ (.slice (some ⟨g,0,none⟩) (xs.length+1) cap)) ?_ ?_
   ·simp only [execOp,p7,sx1,z4,puV]; simp [go_sem,t,fr,Tryz.underlying57]
   ·rw [d7]
    refine ⟨g,cap,by rw [Array.size_setIfInBounds]; exact J.size,S.put 7 (by omega) (by rw [J.size]; omega) (puD_inj 7) (puD_lt _ 7 hz) _ (fun q=>by cases q) (fun _ _ _=>rfl),fun _ j hj=>on_mono (J.c4 f4 j hj),fun _=>on_mono f4,fun _=>on_mono f4,fun _=>on_mono f4,fun q=>absurd (on_mono f4) q,fun _=>?_⟩
    rw [ifc (on_ne (by omega)),if_pos (on_same (by rw [J.size]; omega))]
    refine ⟨hout.only (inlK N) on2 (fun g' _ q _ r=>hAO g' q r) (fun g' q r=>by have e:g=g':=(by simpa [Value.ownBlock] using q); omega),hO1.set 0 _,?_,(inlK N).sam hy1 (Sam.only on2 (fun g' _ q r=>hAO g' q.1 r)) (fun _ _ q=>q),hon.trans (on2.mono (fun i _ q=>.inl q)),hgI⟩
    show (w1.setCell _ _).heap[I]? = _
    rw [on2.block I hI1.lt (fun q=>hOI q.symm)]; exact hI1
end Go.Proofs.YtmcoomlkbgiboaaGreatDoor

/- Regions that draw their order, by facts about the values that have been made, each of which stands while others are made; one last store. No condition. -/
set_option linter.all false
namespace Go.Proofs.YtmcoomlkbgiboaaGreatDoor
open Go.RowKit

def upd (V:Nat→Value) (i:Nat) (v:Value):Nat→Value:=fun j=>if j=i then v else V j
theorem upd_same (V:Nat→Value) (i:Nat) (v:Value):upd V i v i=v:=if_pos rfl
theorem upd_ne {V:Nat→Value} {i j:Nat} {v:Value} (h:j≠i):upd V i v j=V j:=if_neg h
/-- The act in which all slots have their values. -/
def putAll (D:Nat→Option Nat) (V:Nat→Value):Nat→Act→Act
 | 0,a=>a
 | n+1,a=>(putAll D V n a).put (D n) (V n)
theorem putAll_defers (D:Nat→Option Nat) (V:Nat→Value):∀ (n:Nat) (a:Act),(putAll D V n a).defers=a.defers
 | 0,_=>rfl
 | n+1,a=>by
  show ((putAll D V n a).put (D n) (V n)).defers=_
  rw [← putAll_defers D V n a]; cases D n <;> rfl
theorem put_size' (a:Act) (d:Option Nat) (v:Value):(a.put d v).tmps.size=a.tmps.size:=by cases d <;> simp [Act.put]
theorem putAll_size (D:Nat→Option Nat) (V:Nat→Value):∀ (n:Nat) (a:Act),(putAll D V n a).tmps.size=a.tmps.size
 | 0,_=>rfl
 | n+1,a=>by show ((putAll D V n a).put (D n) (V n)).tmps.size=_; rw [put_size',putAll_size D V n a]
theorem putAll_at {D:Nat→Option Nat} {V:Nat→Value}:∀ (n:Nat) (a:Act) (i d:Nat),i<n→D i=some d→(∀ j,j<n→D j=some d→j=i)→d<a.tmps.size→(putAll D V n a).tmps[d]? = some (V i)
 | 0,_,_,_,h,_,_,_=>absurd h (Nat.not_lt_zero _)
 | n+1,a,i,d,h,hd,hu,hs=>by
  show ((putAll D V n a).put (D n) (V n)).tmps[d]? = _
  by_cases q:i=n
  ·subst q
   rw [hd,put_at _ _ _ _ (by rw [putAll_size]; exact hs),if_pos rfl]
  ·have ih:=putAll_at (V:=V) n a i d (by omega) hd (fun j hj=>hu j (by omega)) hs
   cases hn:D n with
   | none=>exact ih
   | some e =>
    have hne:d≠e:=fun x=>q (hu n (by omega) (by rw [hn,x])).symm
    by_cases he:e<(putAll D V n a).tmps.size
    ·rw [put_at _ _ _ _ he,if_neg hne]; exact ih
    ·show ((putAll D V n a).tmps.setIfInBounds e (V n))[d]? = _
     rw [Array.getElem?_setIfInBounds_ne (fun x=>hne x.symm)]; exact ih
theorem putAll_rest {D:Nat→Option Nat} {V:Nat→Value}:∀ (n:Nat) (a:Act) (s:Nat),(∀ j,j<n→D j≠some s)→(putAll D V n a).tmps[s]? = a.tmps[s]?
 | 0,_,_,_=>rfl
 | n+1,a,s,h=>by
  show ((putAll D V n a).put (D n) (V n)).tmps[s]? = _
  have ih:=putAll_rest (V:=V) n a s (fun j hj=>h j (by omega))
  cases hn:D n with
  | none=>exact ih
  | some e =>
   have hne:s≠e:=fun x=>h n (by omega) (by rw [hn,x])
   show ((putAll D V n a).tmps.setIfInBounds e (V n))[s]? = _
   rw [Array.getElem?_setIfInBounds_ne (fun x=>hne x.symm)]; exact ih
theorem slots_all {n:Nat} {D:Nat→Option Nat} {V:Nat→Value} {L:Array Bool} {a0 a:Act} (S:Slots n D V L a0 a) (hinj:∀ i j d,i<n→j<n→D i=some d→D j=some d→j=i) (hlt:∀ i d,i<n→D i=some d→d<a0.tmps.size) (hon:∀ i,i<n→On L i):a=putAll D V n a0:=by
 refine act_ext (by rw [putAll_defers]; exact S.defers) (fun s=>?_)
 by_cases h:∃ i,i<n∧D i=some s
 ·obtain ⟨i,hi,hd⟩:=h
  rw [S.val i s hi hd (hon i hi),putAll_at n a0 i s hi hd (fun j hj e=>hinj i j s hi hj hd e) (hlt i s hi hd)]
 ·rw [S.rest s (fun i hi e=>h ⟨i,hi,e⟩),putAll_rest n a0 s (fun i hi e=>h ⟨i,hi,e⟩)]
section
variable {P:Program} {ops:Array Oper} {Q:Exit→Act→World→Prop}
/-- What an operation does, where it puts it. -/
def OpAt (ops:Array Oper) (i:Nat) (op:Op) (d:Option Nat):Prop:=∃ o,ops[i]? = some o∧o.op=op∧o.guard=none∧o.dst=d
/-- The slots of a region, one for each operation. -/
def dstB (ops:Array Oper) (i:Nat):Option Nat:=(ops[i]?).bind (·.dst)
def edgB (o:Oper) (j:Nat):Bool:=o.after.any fun e=>Region.binds .any e && e.on == j
/-- A region's edges and slots as the law wants them: s its last store, `ea` what goes ahead of it, `dep` what each leans on. -/
def facB (ops:Array Oper) (n s:Nat) (ea dep:Array (List Nat)) (m:Nat):Bool :=
 ops.size == n && decide (s<n) && acB ops &&
 ((
    List.range n).all fun i=>match ops[i]? with
    | none=>false
    | some o=>((dep.getD i []).all fun j=>j != i && decide (j<n) && o.after.any fun e=>Region.binds .any e && (e.on == j || (dep.getD e.on []).contains j)) &&
     (match o.dst with | none=>true | some d=>decide (d<m) && (List.range n).all fun j=>j == i || dstB ops j != some d)) &&
 ((ea.getD 0 []).all fun i=>decide (i<s) && (match ops[s]? with | none=>false | some o=>edgB o i))
theorem facB_ac {n s m:Nat} {ea dep:Array (List Nat)} (h:facB ops n s ea dep m=true):ops.size=n∧s<n∧acB ops=true:=by
 unfold facB at h
 simp only [Bool.and_eq_true,beq_iff_eq,decide_eq_true_eq] at h
 exact ⟨h.1.1.1.1,h.1.1.1.2,h.1.1.2⟩
theorem facB_ops {n s m:Nat} {ea dep:Array (List Nat)} (h:facB ops n s ea dep m=true) {i:Nat} {o:Oper} (ho:ops[i]? = some o) :
  (∀ j∈dep.getD i [],j≠i∧j<n∧∃ e∈o.after,Region.binds .any e=true∧(e.on=j∨j∈dep.getD e.on []))∧(∀ d,o.dst=some d→d<m∧∀ j,j<n→dstB ops j=some d→j=i):=by
 have hn:=(facB_ac h).1
 unfold facB at h
 simp only [Bool.and_eq_true] at h
 have h1:=List.all_eq_true.1 h.1.2 i (List.mem_range.2 (by rw [← hn]; exact (Array.getElem?_eq_some_iff.1 ho).1))
 rw [ho] at h1
 simp only [Bool.and_eq_true] at h1
 obtain ⟨h2,h3⟩:=h1
 refine ⟨fun j hj=>?_,fun d hd=>?_⟩
 ·have:=List.all_eq_true.1 h2 j hj
  simp only [Bool.and_eq_true,bne_iff_ne,decide_eq_true_eq] at this
  obtain ⟨⟨q1,q2⟩,q3⟩:=this
  obtain ⟨k,hk,q⟩:=Array.any_eq_true.1 q3
  simp only [Bool.and_eq_true,Bool.or_eq_true,beq_iff_eq,List.contains_iff_mem] at q
  exact ⟨q1,q2,_,Array.getElem_mem hk,q.1,q.2⟩
 ·rw [hd] at h3
  simp only [Bool.and_eq_true,decide_eq_true_eq] at h3
  refine ⟨h3.1,fun j hj hdj=>?_⟩
  have:=List.all_eq_true.1 h3.2 j (List.mem_range.2 hj)
  simp only [Bool.or_eq_true,beq_iff_eq,bne_iff_ne] at this
  rcases this with q | q
  ·exact q
  ·exact absurd hdj q
theorem facB_ea {n s m:Nat} {ea dep:Array (List Nat)} (h:facB ops n s ea dep m=true) {i:Nat} (hi:i∈ea.getD 0 []) {o:Oper} (ho:ops[s]? = some o):i<s∧∃ e∈o.after,Region.binds .any e=true∧e.on=i:=by
 unfold facB at h
 simp only [Bool.and_eq_true] at h
 have h1:=List.all_eq_true.1 h.2 i hi
 rw [ho] at h1
 simp only [Bool.and_eq_true,decide_eq_true_eq] at h1
 obtain ⟨q1,q2⟩:=h1
 unfold edgB at q2
 obtain ⟨k,hk,q⟩:=Array.any_eq_true.1 q2
 simp only [Bool.and_eq_true,beq_iff_eq] at q
 exact ⟨q1,_,Array.getElem_mem hk,q.1,q.2⟩
end
end Go.Proofs.YtmcoomlkbgiboaaGreatDoor
