/- strconv.Itoa at any number. Condition: the table of tens. -/
import Derived.Test.YtmcoomlkbgiboaaGreatDoorU01
import Derived.Test.YtmcoomlkbgiboaaGreatDoorU02
import Derived.Test.YtmcoomlkbgiboaaGreatDoorU07
import Derived.Test.YtmcoomlkbgiboaaGreatDoorU04
import Derived.Test.YtmcoomlkbgiboaaGreatDoorU09
import Derived.Lib.LaidTab
import Derived.Shelf.Strconv.Itoa3
import Derived.Lib.AppendIntMem
import Derived.Orders

set_option linter.all false
namespace Go.Proofs.YtmcoomlkbgiboaaGreatDoor
open Go.RowKit

theorem itoa_any (n:Int) (w:World) (h0 : -9223372036854775808≤n) (h1:n≤9223372036854775807) (h:Lib.TabIs Tryz.prog w "internal/strconv.uint64pow10" .u64 Lib.pow10Tab):Calls Tryz.prog 89 #[.int .i64 n] w fun e w'=>e=.returned (.string (bs (Lib.itoa n)))∧Kept w w':=by
 refine (Tryz.strconv_Itoa n h0 h1 w h).mono ?_
 rintro e w' ⟨rfl,k,os,rfl⟩
 exact ⟨rfl,Lib.below_grow w.heap.size w (Nat.le_refl _) k os⟩
theorem tab_kept {w w':World} (h:Lib.TabIs Tryz.prog w "internal/strconv.uint64pow10" .u64 Lib.pow10Tab) (k:Kept w w'):Lib.TabIs Tryz.prog w' "internal/strconv.uint64pow10" .u64 Lib.pow10Tab:=Lib.tabBelow_of_tabIs h w' k
end Go.Proofs.YtmcoomlkbgiboaaGreatDoor

/- Regions that draw their order, by an invariant over what has been done. No condition. -/
set_option linter.all false
namespace Go.Proofs.YtmcoomlkbgiboaaGreatDoor
open Go.RowKit

/-- The operation i has been done. -/
def On (L:Array Bool) (i:Nat):Prop:=L.getD i false=true
theorem on_same {L:Array Bool} {i:Nat} (h:i<L.size):On (L.setIfInBounds i true) i:=by
 unfold On; simp [Array.getD_eq_getD_getElem?,h]
theorem on_ne {L:Array Bool} {i j:Nat} (h:i≠j):On (L.setIfInBounds i true) j↔On L j:=by
 unfold On; rw [getD_set_ne false h]
theorem on_set {L:Array Bool} {i j:Nat} (h:On (L.setIfInBounds i true) j):j=i∨On L j:=by
 by_cases q:i=j
 ·exact .inl q.symm
 ·exact .inr ((on_ne q).1 h)
theorem on_mono {L:Array Bool} {i j:Nat} (h:On L j):On (L.setIfInBounds i true) j:=getD_set_true h
theorem not_on {L:Array Bool} {i:Nat} (h:L.getD i true=false):¬ On L i:=by
 unfold On
 intro q
 have hi:i<L.size:=by
  rcases Nat.lt_or_ge i L.size with x | x
  ·exact x
  ·rw [Array.getD_eq_getD_getElem?,Array.getElem?_eq_none x] at h; cases h
 rw [Array.getD_eq_getD_getElem?,Array.getElem?_eq_getElem hi] at h q
 simp only [Option.getD_some] at h q
 rw [h] at q; cases q
def offN (L:Array Bool):Nat→Nat
 | 0=>0
 | n+1=>offN L n+(if L.getD n true=true then 0 else 1)
theorem offN_set (L:Array Bool) (i:Nat) (h:L.getD i true=false):∀ n,offN (L.setIfInBounds i true) n+(if i<n then 1 else 0)=offN L n
 | 0=>by simp [offN]
 | n+1=>by
  have ih:=offN_set L i h n
  rw [offN,offN]
  by_cases q:i=n
  ·subst q
   rw [if_neg (Nat.lt_irrefl _)] at ih
   have hi:i<L.size:=by
    rcases Nat.lt_or_ge i L.size with x | x
    ·exact x
    ·rw [Array.getD_eq_getD_getElem?,Array.getElem?_eq_none x] at h; cases h
   have e:(L.setIfInBounds i true).getD i true=true:=by simp [Array.getD_eq_getD_getElem?,hi]
   rw [e,h]
   simp; omega
  ·rw [getD_set_ne true q]
   generalize (if L.getD n true=true then 0 else 1)=z
   by_cases q2:i<n
   ·have q3:i<n+1:=by omega
    simp only [q2,q3,if_true] at ih ⊢; omega
   ·have q3:¬ i<n+1:=by omega
    simp only [q2,q3,if_false] at ih ⊢; omega
section
variable {P:Program} {ops:Array Oper} {Q:Exit→Act→World→Prop} {md:Region.Mode}
theorem wpAny_inv (I:Array Bool→Act→World→Prop) (hac:∀ (i:Nat) (o:Oper),ops[i]? = some o→∀ e∈o.after,Region.binds md e=true→e.on<i)
  (hend:∀ L a w,I L a w→(∀ i,i<ops.size→L.getD i true=true)→Q .normal a w)
  (hstep:∀ L a w i,I L a w→i<ops.size→L.getD i true=false→(∀ o,ops[i]? = some o→∀ e∈o.after,Region.binds md e=true→On L e.on)→wpOp P ops Q i (I (L.setIfInBounds i true)) a w) :
  ∀ (fuel:Nat) L a w,offN L ops.size≤fuel→I L a w→wpAny P md ops Q fuel L a w:=by
 have hall:∀ L,L.size=L.size→Region.ready md ops L=[]→(∀ i,i<ops.size→L.getD i true=true):=by
  intro L _ hr i
  induction i using Nat.strongRecOn with
  | ind i ih =>
   intro hi
   cases hq:L.getD i true with
   | true=>rfl
   | false =>
    exfalso
    have:i∈Region.ready md ops L:=by
     rw [mem_ready]
     refine ⟨hq,ops[i],Array.getElem?_eq_getElem hi,fun e he hb=>?_⟩
     have h1:=hac i ops[i] (Array.getElem?_eq_getElem hi) e he hb
     have h2:=ih e.on h1 (by omega)
     have hlt:e.on<L.size:=by
      rcases Nat.lt_or_ge i L.size with x | x
      ·omega
      ·rw [Array.getD_eq_getD_getElem?,Array.getElem?_eq_none x] at hq; cases hq
     rw [Array.getD_eq_getD_getElem?,Array.getElem?_eq_getElem hlt] at h2 ⊢
     exact h2
    rw [hr] at this; cases this
 intro fuel
 induction fuel with
 | zero =>
  intro L a w hf hI
  have hz:∀ n,offN L n=0→∀ i,i<n→L.getD i true=true:=by
   intro n
   induction n with
   | zero=>intro _ i hi; omega
   | succ n ih =>
    intro h i hi
    rw [offN] at h
    by_cases q:i=n
    ·subst q
     cases hq:L.getD i true with
     | true=>rfl
     | false=>rw [hq] at h; simp at h
    ·exact ih (by omega) i (by omega)
  have ha:=hz ops.size (by omega)
  refine ⟨?_,hend L a w hI ha⟩
  cases hr:Region.ready md ops L with
  | nil=>rfl
  | cons i r =>
   exfalso
   have hi:i∈Region.ready md ops L:=by rw [hr]; exact List.mem_cons_self ..
   rw [mem_ready] at hi
   obtain ⟨h0,o,ho,_⟩:=hi
   have:=ha i (Array.getElem?_eq_some_iff.1 ho).1
   rw [this] at h0; cases h0
 | succ fuel ih =>
  intro L a w hf hI
  refine ⟨fun hr=>hend L a w hI (hall L rfl hr),fun i hi=>?_⟩
  rw [mem_ready] at hi
  obtain ⟨h0,o,ho,hed⟩:=hi
  have hlt:=(Array.getElem?_eq_some_iff.1 ho).1
  have hs:=offN_set L i h0 ops.size
  rw [if_pos hlt] at hs
  refine wpOp_mono (fun a' w' hI'=>ih _ a' w' (by omega) hI') (hstep L a w i hI hlt h0 (fun o' ho' e he hb=>?_))
  rw [ho] at ho'
  cases ho'
  exact hed e he hb
theorem offN_start (n:Nat):offN (Array.replicate n false) n≤n:=by
 have:∀ (L:Array Bool) m,offN L m≤m:=by
  intro L m
  induction m with
  | zero=>exact Nat.le_refl _
  | succ m ih=>rw [offN]; split <;> omega
 exact this _ _
/-- A region that draws its order, by an invariant. -/
theorem wp_region_inv {id:Nat} {a:Act} {w:World} (I:Array Bool→Act→World→Prop) (hm:P.follows .mixedOrders=true) (hac:∀ (i:Nat) (o:Oper),ops[i]? = some o→∀ e∈o.after,Region.binds .any e=true→e.on<i)
  (h0:I (Array.replicate ops.size false) a w.drew)
  (hend:∀ L a w,I L a w→(∀ i,i<ops.size→L.getD i true=true)→Q .normal a w)
  (hstep:∀ L a w i,I L a w→i<ops.size→L.getD i true=false→(∀ o,ops[i]? = some o→∀ e∈o.after,Region.binds .any e=true→On L e.on)→wpOp P ops Q i (I (L.setIfInBounds i true)) a w) :
  (Code.region id ops true).wp P Q a w :=
 wp_region_any hm (wpAny_inv I hac hend hstep ops.size _ _ _ (offN_start _) h0)
theorem step_value {i:Nat} {o:Oper} {a:Act} {w w':World} {v:Value} {K:Act→World→Prop} (ho:ops[i]? = some o) (hg:o.guard=none) (hr:(execOp a.eval o).run P w=.ok (.value v) w') (hk:K (a.put o.dst v) w'):wpOp P ops Q i K a w:=by
 unfold wpOp
 simp only [ho]
 rw [if_pos (by simp [Region.wanted,hg])]
 left
 unfold Oper.wp
 rw [hr]; exact hk
theorem step_skip {i:Nat} {o:Oper} {a:Act} {w w':World} {K:Act→World→Prop} (ho:ops[i]? = some o) (hg:o.guard=none) (hr:(execOp a.eval o).run P w=.ok .skip w') (hk:K (a.put o.dst undef) w'):wpOp P ops Q i K a w:=by
 unfold wpOp
 simp only [ho]
 rw [if_pos (by simp [Region.wanted,hg])]
 left
 unfold Oper.wp
 rw [hr]; exact hk
theorem step_enter {i:Nat} {o:Oper} {a:Act} {w w':World} {f:FuncId} {args:Array Value} {K:Act→World→Prop} (ho:ops[i]? = some o) (hg:o.guard=none) (hr:(execOp a.eval o).run P w=.ok (.enter f args) w')
  (hc:Calls P f args w' fun e w''=>∃ v,e=.returned v∧K (a.put o.dst v) w''):wpOp P ops Q i K a w:=by
 unfold wpOp
 simp only [ho]
 rw [if_pos (by simp [Region.wanted,hg])]
 left
 unfold Oper.wp
 rw [hr,Oper.upon_enter]
 refine hc.mono ?_
 rintro e w'' ⟨v,rfl,h⟩
 exact h
end
/-- Every edge points to what stands ahead. -/
def acB (ops:Array Oper):Bool:=(List.range ops.size).all fun i=>match ops[i]? with
 | some o=>o.after.all fun e=>!Region.binds .any e || decide (e.on<i)
 | none=>true
theorem ac_of {ops:Array Oper} (h:acB ops=true):∀ (i:Nat) (o:Oper),ops[i]? = some o→∀ e∈o.after,Region.binds .any e=true→e.on<i:=by
 intro i o ho e he hb
 unfold acB at h
 rw [List.all_eq_true] at h
 have:=h i (List.mem_range.2 (Array.getElem?_eq_some_iff.1 ho).1)
 rw [ho] at this
 simp only [Array.all_eq_true_iff_forall_mem] at this
 have:=this e he
 rw [hb] at this
 simpa using this
/-- The slots: what has been done has its value, all else is as it was. -/
structure Slots (n:Nat) (D:Nat→Option Nat) (V:Nat→Value) (L:Array Bool) (a0 a:Act):Prop where
 size:a.tmps.size=a0.tmps.size
 defers:a.defers=a0.defers
 val:∀ i d,i<n→D i=some d→On L i→a.tmps[d]? = some (V i)
 rest:∀ s,(∀ i,i<n→D i≠some s)→a.tmps[s]? = a0.tmps[s]?
theorem Slots.start (n:Nat) (D:Nat→Option Nat) (V:Nat→Value) (m:Nat) (a:Act):Slots n D V (Array.replicate m false) a a :=
 ⟨rfl,rfl,(fun i d _ _ h=>by
  unfold On at h
  rw [Array.getD_eq_getD_getElem?] at h
  by_cases q:i<m
  ·rw [Array.getElem?_eq_getElem (by simpa using q)] at h; simp at h
  ·rw [Array.getElem?_eq_none (by simpa using q)] at h; cases h),fun _ _=>rfl⟩
theorem Slots.eval {n:Nat} {D:Nat→Option Nat} {V:Nat→Value} {L:Array Bool} {a0 a:Act} (h:Slots n D V L a0 a) (i d:Nat) (hi:i<n) (hd:D i=some d) (ho:On L i):a.eval (.tmp d)=V i:=by
 show a.tmps.getD d undef=_
 rw [Array.getD_eq_getD_getElem?,h.val i d hi hd ho]; rfl
theorem Slots.ext {n:Nat} {D:Nat→Option Nat} {V:Nat→Value} {L:Array Bool} {a0 a:Act} (h:Slots n D V L a0 a) (s:Nat) (hs:∀ i,i<n→D i≠some s):a.eval (.tmp s)=a0.eval (.tmp s):=by
 show a.tmps.getD s undef=a0.tmps.getD s undef
 rw [Array.getD_eq_getD_getElem?,Array.getD_eq_getD_getElem?,h.rest s hs]
theorem Slots.put {n:Nat} {D:Nat→Option Nat} {V V':Nat→Value} {L:Array Bool} {a0 a:Act} (h:Slots n D V L a0 a) (i:Nat) (hi:i<n) (hL:i<L.size) (hinj:∀ j d,j<n→D i=some d→D j=some d→j=i) (hsz:∀ d,D i=some d→d<a0.tmps.size)
  (v:Value) (hv:(D i).isSome=true→v=V' i) (hV:∀ j,j<n→On L j→V j=V' j):Slots n D V' (L.setIfInBounds i true) a0 (a.put (D i) v):=by
 cases hd:D i with
 | none =>
  refine ⟨h.size,h.defers,fun j d hj hjd ho=>?_,h.rest⟩
  rcases on_set ho with q | q
  ·subst q; rw [hd] at hjd; cases hjd
  ·rw [← hV j hj q]; exact h.val j d hj hjd q
 | some d =>
  have hv':v=V' i:=hv (by rw [hd]; rfl)
  refine ⟨?_,h.defers,fun j d' hj hjd ho=>?_,fun s hs=>?_⟩
  ·show (a.tmps.setIfInBounds d v).size=_
   rw [Array.size_setIfInBounds]; exact h.size
  ·show (a.tmps.setIfInBounds d v)[d']? = _
   by_cases q:d=d'
   ·subst q
    obtain rfl:=hinj j d hj hd hjd
    rw [Array.getElem?_setIfInBounds_self_of_lt (by rw [h.size]; exact hsz d hd),hv']
   ·rw [Array.getElem?_setIfInBounds_ne q]
    rcases on_set ho with q2 | q2
    ·subst q2; rw [hd] at hjd; cases hjd; exact absurd rfl q
    ·rw [← hV j hj q2]; exact h.val j d' hj hjd q2
  ·show (a.tmps.setIfInBounds d v)[s]? = _
   rw [Array.getElem?_setIfInBounds_ne (fun e=>hs i hi (by rw [hd,e]))]
   exact h.rest s hs
theorem not_on_start (m i:Nat):¬ On (Array.replicate m false) i:=by
 unfold On
 intro h
 rw [Array.getD_eq_getD_getElem?] at h
 by_cases q:i<m
 ·rw [Array.getElem?_eq_getElem (by simpa using q)] at h; simp at h
 ·rw [Array.getElem?_eq_none (by simpa using q)] at h; cases h
theorem len_cons {α:Type} {n:Nat} {l:List α} (h:l.length=n+1):∃ x t,l=x :: t∧t.length=n:=by
 cases l with
 | nil=>cases h
 | cons x t=>exact ⟨x,t,rfl,by simpa using h⟩
end Go.Proofs.YtmcoomlkbgiboaaGreatDoor

/- Maps in memory whose keys are texts: look-up, a key that is new, a key that is put again. No condition. -/
set_option linter.all false
namespace Go.Proofs.YtmcoomlkbgiboaaGreatDoor
open Go.RowKit

def entT (e:Bs × Value) (i:Nat):MapEntry:={ key:=.string (bs e.1),val:=e.2,born:=i }
def entsT (es:List (Bs × Value)):Array MapEntry:=(es.mapIdx fun i e=>entT e i).toArray
/-- Block m is the map of the entries es. -/
def MapT (w:World) (m:Nat) (es:List (Bs × Value)):Prop:=w.heap[m]? = some (.map (entsT es) es.length)
/-- The world with other entries in block m. -/
def putT (w:World) (m:Nat) (es:List (Bs × Value)):World:={ w with heap:=w.heap.setIfInBounds m (.map (entsT es) es.length) }
def getT (es:List (Bs × Value)) (k:Bs):Option Value:=(es.find? fun e=>e.1 == k).map (·.2)
theorem MapT.lt {w:World} {m:Nat} {es:List (Bs × Value)} (h:MapT w m es):m<w.heap.size:=by
 rcases Nat.lt_or_ge m w.heap.size with q | q
 ·exact q
 ·unfold MapT at h; rw [Array.getElem?_eq_none q] at h; cases h
theorem MapT.only {S:Nat→Prop} {w w':World} {m:Nat} {es:List (Bs × Value)} (h:MapT w m es) (k:Only S w w') (hs:¬ S m):MapT w' m es:=by
 unfold MapT at h ⊢; rw [k.block m (MapT.lt h) hs]; exact h
theorem MapT.kept {w w':World} {m:Nat} {es:List (Bs × Value)} (h:MapT w m es) (k:Kept w w'):MapT w' m es:=h.only (Only.of_kept (S:=fun _=>False) k) (fun q=>q)
theorem MapT.made (w:World):MapT (w.alloc (.map #[] 0)) w.heap.size []:=heap_alloc_new w _
theorem putT_map (w:World) (m:Nat) (es:List (Bs × Value)) (hm:m<w.heap.size):MapT (putT w m es) m es:=by
 unfold MapT putT; simp [hm]
theorem putT_only (w:World) (m:Nat) (es:List (Bs × Value)):Only (fun i=>i=m) w (putT w m es) :=
 ⟨rfl,rfl,rfl,by simp [putT],fun k hk hs=>by simp [putT,Array.getElem?_setIfInBounds,Ne.symm hs]⟩
theorem entsT_snoc (es:List (Bs × Value)) (e:Bs × Value):entsT (es ++ [e])=(entsT es).push (entT e es.length):=by
 unfold entsT; rw [List.mapIdx_append]; simp
theorem entsT_list (es:List (Bs × Value)):(entsT es).toList=es.mapIdx fun i e=>entT e (i+0):=by simp [entsT]
theorem getT_cons (e:Bs × Value) (es:List (Bs × Value)) (k:Bs):getT (e :: es) k=if e.1=k then some e.2 else getT es k:=by
 unfold getT
 rw [List.find?_cons]
 by_cases h:e.1=k
 ·rw [if_pos h]; simp [h]
 ·rw [if_neg h]
  have:(e.1 == k)=false:=by simpa using h
  rw [this]
theorem findT (k:Bs):∀ (l:List (Bs × Value)) (i j:Nat),
  (getT l k=none∧Instr.findNow .string (.string (bs k)) (l.mapIdx fun i' e=>entT e (i'+i)) j=some none) ∨
  (∃ (n:Nat) (v:Value),getT l k=some v∧l[n]? = some (k,v)∧Instr.findNow .string (.string (bs k)) (l.mapIdx fun i' e=>entT e (i'+i)) j=some (some (n+j,v))∧∀ u k',getT (l.set n (k,u)) k'=if k'=k then some u else getT l k')
 | [],_,_=>.inl ⟨rfl,rfl⟩
 | e :: l,i,j=>by
  rw [List.mapIdx_cons,getT_cons]
  unfold Instr.findNow
  by_cases h:e.1=k
  ·right
   have hx:(bs k == bs e.1)=true:=by rw [bs_beq,beq_iff_eq]; exact h.symm
   refine ⟨0,e.2,by rw [if_pos h],by rw [← h]; rfl,?_,fun u k'=>?_⟩
   ·simp [entT,Instr.sameNow,hx]
   ·rw [List.set_cons_zero,getT_cons,getT_cons]
    by_cases q:k'=k
    ·rw [if_pos q,if_pos q.symm]
    ·rw [if_neg q,if_neg (fun e=>q e.symm),if_neg (fun e'=>q (by rw [← e',h]))]
  ·have hx:(bs k == bs e.1)=false:=by rw [bs_beq,beq_eq_false_iff_ne]; exact fun q=>h q.symm
   have hm:(l.mapIdx fun i' x=>entT x (i'+1+i))=l.mapIdx fun i' x=>entT x (i'+(i+1)):=by
    congr 1; funext a b; congr 1; omega
   rw [if_neg h]
   simp only [entT,Instr.sameNow,hx] at hm ⊢
   rcases findT k l (i+1) (j+1) with ⟨g1,g2⟩ | ⟨n,v,g1,g2,g3,g4⟩
   ·left
    simp only [entT] at g2
    rw [hm]
    exact ⟨g1,g2⟩
   ·right
    simp only [entT] at g3
    rw [hm]
    refine ⟨n+1,v,g1,by simpa using g2,by rw [g3]; congr 3; omega,fun u k'=>?_⟩
    rw [List.set_cons_succ,getT_cons,getT_cons,g4]
    by_cases q:e.1=k'
    ·rw [if_pos q,if_pos q,if_neg (fun e'=>h (by rw [q,e']))]
    ·rw [if_neg q,if_neg q]
theorem getT_snoc {es:List (Bs × Value)} {k:Bs} (h:getT es k=none) (v:Value) (k':Bs):getT (es ++ [(k,v)]) k'=if k'=k then some v else getT es k':=by
 induction es with
 | nil =>
  rw [List.nil_append,getT_cons]
  by_cases q:k'=k
  ·rw [if_pos q,if_pos q.symm]
  ·rw [if_neg q,if_neg (fun e=>q e.symm)]
 | cons e es ih =>
  rw [getT_cons] at h
  by_cases q:e.1=k
  ·rw [if_pos q] at h; cases h
  ·rw [if_neg q] at h
   rw [List.cons_append,getT_cons,getT_cons,ih h]
   by_cases q2:e.1=k'
   ·rw [if_pos q2,if_pos q2,if_neg (fun e'=>q (by rw [q2,e']))]
   ·rw [if_neg q2,if_neg q2]
section
variable {P:Program} {tm ti te:TypeId}
theorem check_str (hi:P.underlying ti=some .string) (e:Bool) (s:ByteArray) (w:World):(Instr.checkKey e 10000 ti (.string s)).run P w=.ok () w:=by
 show (Instr.checkKey e (9999+1) ti (.string s)).run P w=.ok () w
 rw [Instr.checkKey]
 simp only [Sem.run_bind,run_underlying hi,Result.andThen]
 simp [Sem.run_pure]
theorem runT (hi:P.underlying ti=some .string) (w:World) (es:List (Bs × Value)) (k:Bs) :
  (getT es k=none∧(Instr.findKey ti (.string (bs k)) (entsT es).toList).run P w=.ok none w) ∨
  (∃ n v,getT es k=some v∧es[n]? = some (k,v)∧(Instr.findKey ti (.string (bs k)) (entsT es).toList).run P w=.ok (some (n,v)) w∧∀ u k',getT (es.set n (k,u)) k'=if k'=k then some u else getT es k'):=by
 rcases findT k es 0 0 with ⟨g1,g2⟩ | ⟨n,v,g1,g2,g3,g4⟩
 ·left
  refine ⟨g1,?_⟩
  unfold Instr.findKey
  simp only [Sem.run_bind,run_underlying hi,Result.andThen,entsT_list,g2]
  simp [Sem.run_pure]
 ·right
  refine ⟨n,v,g1,g2,?_,g4⟩
  unfold Instr.findKey
  simp only [Sem.run_bind,run_underlying hi,Result.andThen,entsT_list,g3]
  simp [Sem.run_pure]
theorem lookT_ok (hm:P.underlying tm=some (.map ti te)) (hi:P.underlying ti=some .string) (w:World) (m:Nat) (es:List (Bs × Value)) (k:Bs) (z:Value) (hz:(zeroValue te).run P w=.ok z w) (h:MapT w m es) :
  (Instr.lookup tm (.map (some m)) (.string (bs k)) true).run P w=.ok (.tuple #[(getT es k).getD z,.bool (getT es k).isSome]) w:=by
 unfold MapT at h
 unfold Instr.lookup
 simp only [Sem.run_bind,run_underlying hm,Result.andThen]
 rcases runT hi w es k with ⟨g1,g2⟩ | ⟨n,v,g1,_,g3,_⟩
 ·simp only [getObj,Sem.run_bind,Sem.run,h,Result.andThen,Sem.run_pure,check_str hi,g2,g1,hz]
  simp [Sem.run_pure]
 ·simp only [getObj,Sem.run_bind,Sem.run,h,Result.andThen,Sem.run_pure,check_str hi,g3,g1]
  simp [Sem.run_pure]
theorem insT (hm:P.underlying tm=some (.map ti te)) (hi:P.underlying ti=some .string) (w:World) (m:Nat) (es:List (Bs × Value)) (k:Bs) (v:Value) (h:MapT w m es) (hk:getT es k=none) :
  (Instr.mapUpdate tm (.map (some m)) (.string (bs k)) v).run P w=.ok () (putT w m (es ++ [(k,v)])):=by
 unfold MapT at h
 unfold Instr.mapUpdate
 simp only [Sem.run_bind,run_underlying hm,Result.andThen]
 rcases runT hi w es k with ⟨g1,g2⟩ | ⟨n,v',g1,_,_,_⟩
 ·simp only [getObj,Sem.run_bind,Sem.run,h,Result.andThen,Sem.run_pure,check_str hi,g2,setObj]
  refine congrArg (Result.ok ()) ?_
  unfold putT
  rw [entsT_snoc]
  simp [entT]
 ·rw [hk] at g1; cases g1
theorem same_str (k:ByteArray) (w:World):(Instr.keyThatStays (.string k) (.string k)).run P w=.ok (.string k) w:=by
 unfold Instr.keyThatStays
 have e:Instr.sameBits 10000 (.string k) (.string k)=true:=by
  show (k == k)=true
  show (k.data == k.data)=true
  exact beq_self_eq_true _
 rw [e]; rfl
/-- A key that is there is put again, with another value: at its place. -/
theorem overT (hm:P.underlying tm=some (.map ti te)) (hi:P.underlying ti=some .string) (w:World) (m:Nat) (es:List (Bs × Value)) (k:Bs) (v v0:Value) (h:MapT w m es) (hk:getT es k=some v0) :
  ∃ es',(∀ k',getT es' k'=if k'=k then some v else getT es k')∧(Instr.mapUpdate tm (.map (some m)) (.string (bs k)) v).run P w=.ok () (putT w m es'):=by
 unfold MapT at h
 rcases runT hi w es k with ⟨g1,_⟩ | ⟨n,v',g1,g2,g3,g4⟩
 ·rw [hk] at g1; cases g1
 ·rw [hk] at g1
  cases g1
  refine ⟨es.set n (k,v),g4 v,?_⟩
  unfold Instr.mapUpdate
  simp only [Sem.run_bind,run_underlying hm,Result.andThen]
  have e1:(entsT es)[n]? = some (entT (k,v0) n):=by unfold entsT; simp [g2]
  simp only [getObj,Sem.run_bind,Sem.run,h,Result.andThen,Sem.run_pure,check_str hi,g3,setObj,e1,Option.map_some,Option.getD_some,entT,same_str]
  refine congrArg (Result.ok ()) ?_
  unfold putT
  have e2:((entsT es).modify n fun e=>{ e with key:=.string (bs k),val:=v })=entsT (es.set n (k,v)):=by
   apply Array.ext_getElem?
   intro i
   rw [Array.getElem?_modify]
   by_cases q:n=i
   ·subst q
    rw [if_pos rfl,e1]
    unfold entsT
    have hn:=(List.getElem?_eq_some_iff.1 g2).1
    simp [entT,hn]
   ·rw [if_neg q]
    unfold entsT
    simp [List.getElem?_set,q]
  have e3:(es.set n (k,v)).length=es.length:=by simp
  rw [e3]
  first | rw [e2] | (trace_state; rfl)
end
end Go.Proofs.YtmcoomlkbgiboaaGreatDoor

/- Year of package bib and of its reference, at fields of any length. No condition but what a machine bears. -/
set_option linter.all false
namespace Go.Proofs.YtmcoomlkbgiboaaGreatDoor
open Go.RowKit

set_option maxRecDepth 100000 in
set_option maxHeartbeats 3200000 in
theorem year_wide (sk st:Bs) (vA vE vF:Value) (ps:List Pr) (w:World) (hv:Prs w vF ps) (hN:ps.length≤1100000) (hl:((fieldL ps [121,101,97,114]).getD []).length≤140737488355328) :
  Calls Tryz.prog 37 #[srcV sk st vA vE vF] w fun e w'=>e=.returned (.int .i64 (yearL ((fieldL ps [121,101,97,114]).getD [])))∧Kept w w':=by
 have HF:=Lib.hid (fun w hv=>field_any sk st vA vE vF ps [121,101,97,114] w hv hN)
 unfold FieldPost at HF
 have HV:=Lib.hid hv
 have HNO:Hid ((fieldL ps [121,101,97,114]).isSome=false→(fieldL ps [121,101,97,114]).getD []=[]):=by
  intro h
  cases q:fieldL ps [121,101,97,114] with
  | none=>rfl
  | some x=>rw [q] at h; cases h
 clear hv
 generalize (fieldL ps [121,101,97,114]).isSome=ok at *
 generalize (fieldL ps [121,101,97,114]).getD []=v at *
 cases ok
 ·have HZ:Hid (yearL v=0):=by show _=_; rw [HNO.out rfl]; rfl
  go_enter Tryz.func37,Tryz.ntmps37
  go_wp2_with fail
  refine (HF.out _ (HV.out.kept (kept_alloc _ _))).mono ?_
  rintro e w1 ⟨rfl,hk1⟩
  have HK:=Lib.hid ((kept_alloc _ _).trans hk1)
  clear hk1
  go_wp2_with fail
  go_ret
  exact ⟨ret_int HZ.out.symm,HK.out⟩
 by_cases hle:v.length≤4
 ·go_enter Tryz.func37,Tryz.ntmps37
  go_wp2_with fail
  refine (HF.out _ (HV.out.kept (kept_alloc _ _))).mono ?_
  rintro e w1 ⟨rfl,hk1⟩
  have HK:=Lib.hid ((kept_alloc _ _).trans hk1)
  clear hk1
  go_wp2_with fail
  go_loopw [5] (fun n wr=>∃ pos:Nat,pos≤v.length∧n=.int .i64 (numL (v.take pos))∧wr.heap[w1.heap.size]? = some (.stringIter (bs v) pos)∧Kept w1 wr∧Hid ((v.take pos).all digB=true)) (fun _ wr=>v.length - wr.iterPos w1.heap.size)
  case atStart=>exact ⟨0,Nat.zero_le _,rfl,by have:=World.iter_heap w1 (bs v) 0; simpa using this,kept_alloc _ _,rfl⟩
  case round =>
   obtain ⟨pos,hp,rfl,hit,hk,HA⟩:=hrel
   by_cases hlt:pos<v.length
   ·have nx:=fun ty=>run_next_k (P:=Tryz.prog) wr w1.heap.size (bs v) pos ty hit hlt
    have h0:=at8_lo v pos
    have hnb:numL (v.take pos)≤9999:=num_bound _ (by simp; omega) HA.out
    by_cases hd:48≤at8 v pos∧at8 v pos≤57
    ·rw [dec_low v pos (by omega)] at nx
     simp only [show ((1:Int).toNat)=1 from rfl] at nx
     obtain ⟨ha,hn⟩:=all_step v pos hlt HA.out hd
     have HA2:=Lib.hid ha
     have HN2:=Lib.hid hn
     obtain ⟨q1,q2,q3,q4⟩:=iter_next w1 wr w1.heap.size v pos 1 hit hk (Nat.le_refl _)
     have HQ1:=Lib.hid q1
     have HQ2:=Lib.hid q2
     have HQ3:=Lib.hid q3
     have HQ4:=Lib.hid q4
     generalize wr.iterAt w1.heap.size (bs v) (pos+1)=wq at *
     generalize numL (v.take pos)=nk at *
     generalize at8 v pos=b at *
     obtain ⟨hd1,hd2⟩:=hd
     clear ha hn HA q1 q2 q3 q4 hit hk
     go_wp2_with fail
     go_roundw
     case rel=>exact ⟨pos+1,by omega,by first | (rw [HN2.out]; done) | (rw [HN2.out]; congr 1; omega),HQ1.out,HQ2.out,HA2.out⟩
     case measure=>rw [HQ3.out,HQ4.out]; omega
    ·have HZ:=Lib.hid (yearL_bad v pos hlt hd)
     have hcc:(dec (bs v) pos).1<48∨57<(dec (bs v) pos).1:=by
      by_cases q:at8 v pos<128
      ·rw [dec_low v pos q]; simp only; omega
      ·have:=dec_hi v pos (by omega); omega
     have hcr:=dec_bounds (bs v) pos hlt
     obtain ⟨q1,q2,q3,q4⟩:=iter_next w1 wr w1.heap.size v pos (dec (bs v) pos).2.toNat hit hk (Nat.le_refl _)
     have HQ2:=Lib.hid (HK.out.trans q2)
     generalize wr.iterAt w1.heap.size (bs v) (pos+(dec (bs v) pos).2.toNat)=wq at *
     generalize (dec (bs v) pos).1=c at *
     obtain ⟨b1,b2,_⟩:=hcr
     generalize numL (v.take pos)=nk at *
     clear hd HA q1 q2 q3 q4 hit hk
     rcases hcc with q | q
     all_goals
      go_wp2_with fail
      go_ret
      exact ⟨ret_int HZ.out.symm,HQ2.out⟩
   ·have nx:=fun ty=>run_next_k_end (P:=Tryz.prog) wr w1.heap.size (bs v) pos ty hit (by simpa using hlt)
    have HZ:Hid (yearL v=numL (v.take pos)):=by
     show _=_
     have h:=HA.out
     rw [List.take_of_length_le (by omega)] at h ⊢
     exact yearL_good v hle h
    have HR:=Lib.hid (HK.out.trans hk)
    generalize numL (v.take pos)=nk at *
    clear hk HA hit
    go_wp2_with fail
    go_ret
    exact ⟨ret_int HZ.out.symm,HR.out⟩
 ·have HZ:Hid (yearL v=0):=by show _=_; unfold yearL; rw [if_neg (fun q=>hle q.1)]
  go_enter Tryz.func37,Tryz.ntmps37
  go_wp2_with fail
  refine (HF.out _ (HV.out.kept (kept_alloc _ _))).mono ?_
  rintro e w1 ⟨rfl,hk1⟩
  have HK:=Lib.hid ((kept_alloc _ _).trans hk1)
  clear hk1
  go_wp2_with fail
  go_ret
  exact ⟨ret_int HZ.out.symm,HK.out⟩
end Go.Proofs.YtmcoomlkbgiboaaGreatDoor
