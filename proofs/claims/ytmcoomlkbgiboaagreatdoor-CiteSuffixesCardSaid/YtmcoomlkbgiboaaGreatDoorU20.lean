/- What a template is filled with, in plain Lean. No condition. -/
import Derived.Test.YtmcoomlkbgiboaaGreatDoorU18
import Derived.Test.YtmcoomlkbgiboaaGreatDoorU19
import Derived.Test.YtmcoomlkbgiboaaGreatDoorU07
import Derived.Test.YtmcoomlkbgiboaaGreatDoorU10
import Derived.Test.YtmcoomlkbgiboaaGreatDoorU01
import Derived.Test.YtmcoomlkbgiboaaGreatDoorU02
import Derived.Test.YtmcoomlkbgiboaaGreatDoorU04
import Derived.Lib.LaidTab
import Derived.Shelf.Strconv.Itoa3
import Derived.Lib.AppendIntMem
import Derived.Orders
set_option linter.all false
namespace Go.Proofs.YtmcoomlkbgiboaaGreatDoor
open Go.RowKit
def zjB:Bs:=[101,100,105,116,111,114]
def zgY:Bs:=[97,117,116,104,111,114,115]
def zgZ:Bs:=[101,100,105,116,111,114,115]
def zvO:Bs:=[116,121,112,101]
structure FilT where
 key:Bs
 type:Bs
 author:List P4
 editor:List P4
 fields:List Pr
 lang:Bs
 suffix:Bs
 number:Int
 most:Int
def zf6 (c:FilT):Int:=zdW ((za5 c.fields [121,101,97,114]).getD [])
def zjC (c:FilT):Bs:=if zf6 c=0 then [] else Lib.itoa (zf6 c)
def zw0 (c:FilT):Bs:=if c.number<1 then [] else Lib.itoa c.number
def zfR (c:FilT):List (Bs × Bs):=[(zdH,zcN c.author c.lang c.most false),(zjB,zcN c.editor c.lang c.most false),(zgY,zcN c.author c.lang c.most true),(zgZ,zcN c.editor c.lang c.most true),(zdY,zjC c),(zb9,c.suffix),(zbD,zw0 c),(zvN,c.key),(zvO,c.type)]
def zyT (l:List (Bs × Bs)) (ys ns:Bs):List (Bs × Bs):=l.map fun e=>if e.1=zdY then (zdY,ys) else if e.1=zbD then (zbD,ns) else e
def zmM (c:FilT) (k:Bs):Bs:=((zfR c).find? fun e=>e.1 == k).elim ((za5 c.fields k).getD []) (·.2)
def FitF (c:FilT):Prop:=c.author.length<=900/\c.editor.length<=900/\(∀ q∈c.author,zcQ q<=10000)/\(∀ q∈c.editor,zcQ q<=10000)/\(-9223372036854775808<=c.most/\c.most<=9223372036854775807)/\c.fields.length<=1100000/\((za5 c.fields [121,101,97,114]).getD []).length<=140737488355328/\(-9223372036854775808<=c.number/\c.number<=9223372036854775807)
theorem zoT (n:Int) (w:World) (h0 : -9223372036854775808<=n) (h1:n<=9223372036854775807) (h:Lib.TabIs Tryz.prog w "internal/strconv.uint64pow10" .u64 Lib.pow10Tab):Calls Tryz.prog 89 #[.int .i64 n] w fun e w'=>e=.returned (.string (bs (Lib.itoa n)))/\Kept w w':=by
 refine (Tryz.strconv_Itoa n h0 h1 w h).mono ?_;rintro e w' ⟨rfl,k,os,rfl⟩;exact ⟨rfl,Lib.below_grow w.heap.size w (Nat.le_refl _) k os⟩
theorem zeO {w w':World} (h:Lib.TabIs Tryz.prog w "internal/strconv.uint64pow10" .u64 Lib.pow10Tab) (k:Kept w w'):Lib.TabIs Tryz.prog w' "internal/strconv.uint64pow10" .u64 Lib.pow10Tab:=Lib.tabBelow_of_tabIs h w' k
def On (L:Array Bool) (i:Nat):Prop:=L.getD i false=true
theorem zeR {L:Array Bool} {i:Nat} (h:i<L.size):On (L.setIfInBounds i true) i:=by
 unfold On;simp [Array.getD_eq_getD_getElem?,h]
theorem ze7 {L:Array Bool} {i j:Nat} (h:i≠j):On (L.setIfInBounds i true) j↔On L j:=by
 unfold On;rw[getD_set_ne false h]
theorem zf2 {L:Array Bool} {i j:Nat} (h:On (L.setIfInBounds i true) j):j=i\/On L j:=by
 by_cases q:i=j
 ·exact .inl q.symm
 ·exact .inr ((ze7 q).1 h)
theorem za8 {L:Array Bool} {i j:Nat} (h:On L j):On (L.setIfInBounds i true) j:=getD_set_true h
theorem ztZ {L:Array Bool} {i:Nat} (h:L.getD i true=false):¬ On L i:=by
 unfold On;intro q;have hi:i<L.size:=by
  rcases Nat.lt_or_ge i L.size with x|x
  ·exact x
  ·rw[Array.getD_eq_getD_getElem?,Array.getElem?_eq_none x] at h;cases h
 rw[Array.getD_eq_getD_getElem?,Array.getElem?_eq_getElem hi] at h q;simp only[Option.getD_some] at h q;rw[h] at q;cases q
def zw1 (L:Array Bool):Nat->Nat
 | 0=>0
 | n+1=>zw1 L n+(if L.getD n true=true then 0 else 1)
theorem zt0 (L:Array Bool) (i:Nat) (h:L.getD i true=false):∀ n,zw1 (L.setIfInBounds i true) n+(if i<n then 1 else 0)=zw1 L n
 | 0=>by simp [zw1]
 | n+1=>by
  have ih:=zt0 L i h n;rw[zw1,zw1];by_cases q:i=n
  ·subst q;rw[if_neg (Nat.lt_irrefl _)] at ih;have hi:i<L.size:=by
    rcases Nat.lt_or_ge i L.size with x|x
    ·exact x
    ·rw[Array.getD_eq_getD_getElem?,Array.getElem?_eq_none x] at h;cases h
   have e:(L.setIfInBounds i true).getD i true=true:=(by simp [Array.getD_eq_getD_getElem?,hi]);rw[e,h];simp;omega
  ·rw[getD_set_ne true q];generalize (if L.getD n true=true then 0 else 1)=z;by_cases q2:i<n
   ·have q3:i<n+1:=(by omega);simp only[q2,q3,if_true] at ih ⊢;omega
   ·have q3:¬ i<n+1:=(by omega);simp only[q2,q3,if_false] at ih ⊢;omega
section
variable {P:Program} {ops:Array Oper} {Q:Exit->Act->World->Prop} {md:Region.Mode}
theorem zyU (I:Array Bool->Act->World->Prop) (hac:∀ (i:Nat) (o:Oper),ops[i]? = some o->∀ e∈o.after,Region.binds md e=true->e.on<i)
  (hend:∀ L a w,I L a w->(∀ i,i<ops.size->L.getD i true=true)->Q .normal a w)
  (hstep:∀ L a w i,I L a w->i<ops.size->L.getD i true=false->(∀ o,ops[i]? = some o->∀ e∈o.after,Region.binds md e=true->On L e.on)->wpOp P ops Q i (I (L.setIfInBounds i true)) a w) :
  ∀ (fuel:Nat) L a w,zw1 L ops.size<=fuel->I L a w->wpAny P md ops Q fuel L a w:=by
 have hall:∀ L,L.size=L.size->Region.ready md ops L=[]->(∀ i,i<ops.size->L.getD i true=true):=by
  intro L _ hr i
  induction i using Nat.strongRecOn with
  | ind i ih =>
   intro hi;cases hq:L.getD i true with
   | true=>rfl
   | false =>
    exfalso;have:i∈Region.ready md ops L:=by
     rw[mem_ready];refine ⟨hq,ops[i],Array.getElem?_eq_getElem hi,fun e he hb=>?_⟩;have h1:=hac i ops[i] (Array.getElem?_eq_getElem hi) e he hb;have h2:=ih e.on h1 (by omega);have hlt:e.on<L.size:=by
      rcases Nat.lt_or_ge i L.size with x|x
      ·omega
      ·rw[Array.getD_eq_getD_getElem?,Array.getElem?_eq_none x] at hq;cases hq
     rw[Array.getD_eq_getD_getElem?,Array.getElem?_eq_getElem hlt] at h2 ⊢;exact h2
    rw[hr] at this;cases this
 intro fuel
 induction fuel with
 | zero =>
  intro L a w hf hI;have hz:∀ n,zw1 L n=0->∀ i,i<n->L.getD i true=true:=by
   intro n
   induction n with
   | zero=>intro _ i hi;omega
   | succ n ih =>
    intro h i hi;rw[zw1] at h;by_cases q:i=n
    ·subst q;cases hq:L.getD i true with
     | true=>rfl
     | false=>rw[hq] at h;simp at h
    ·exact ih (by omega) i (by omega)
  have ha:=hz ops.size (by omega);refine ⟨?_,hend L a w hI ha⟩;cases hr:Region.ready md ops L with
  | nil=>rfl
  | cons i r =>
   exfalso;have hi:i∈Region.ready md ops L:=(by rw[hr];exact List.mem_cons_self ..);rw[mem_ready] at hi;obtain ⟨h0,o,ho,_⟩:=hi;have:=ha i (Array.getElem?_eq_some_iff.1 ho).1;rw[this] at h0;cases h0
 | succ fuel ih =>
  intro L a w hf hI;refine ⟨fun hr=>hend L a w hI (hall L rfl hr),fun i hi=>?_⟩;rw[mem_ready] at hi;obtain ⟨h0,o,ho,hed⟩:=hi;have hlt:=(Array.getElem?_eq_some_iff.1 ho).1;have hs:=zt0 L i h0 ops.size;rw[if_pos hlt] at hs;refine wpOp_mono (fun a' w' hI'=>ih _ a' w' (by omega) hI') (hstep L a w i hI hlt h0 (fun o' ho' e he hb=>?_));rw[ho] at ho';cases ho';exact hed e he hb
theorem zvP (n:Nat):zw1 (Array.replicate n false) n<=n:=by
 have:∀ (L:Array Bool) m,zw1 L m<=m:=by
  intro L m
  induction m with
  | zero=>exact Nat.le_refl _
  | succ m ih=>rw[zw1];split <;> omega
 exact this _ _
theorem zfS {id:Nat} {a:Act} {w:World} (I:Array Bool->Act->World->Prop) (hm:P.follows .mixedOrders=true) (hac:∀ (i:Nat) (o:Oper),ops[i]? = some o->∀ e∈o.after,Region.binds .any e=true->e.on<i)
  (h0:I (Array.replicate ops.size false) a w.drew)
  (hend:∀ L a w,I L a w->(∀ i,i<ops.size->L.getD i true=true)->Q .normal a w)
  (hstep:∀ L a w i,I L a w->i<ops.size->L.getD i true=false->(∀ o,ops[i]? = some o->∀ e∈o.after,Region.binds .any e=true->On L e.on)->wpOp P ops Q i (I (L.setIfInBounds i true)) a w) :
  (Code.region id ops true).wp P Q a w :=
 wp_region_any hm (zyU I hac hend hstep ops.size _ _ _ (zvP _) h0)
theorem zaS {i:Nat} {o:Oper} {a:Act} {w w':World} {v:Value} {K:Act->World->Prop} (ho:ops[i]? = some o) (hg:o.guard=none) (hr:(execOp a.eval o).run P w=.ok (.value v) w') (hk:K (a.put o.dst v) w'):wpOp P ops Q i K a w:=by
 unfold wpOp;simp only[ho];rw[if_pos (by simp [Region.wanted,hg])];left;unfold Oper.wp;rw[hr];exact hk
theorem zcR {i:Nat} {o:Oper} {a:Act} {w w':World} {K:Act->World->Prop} (ho:ops[i]? = some o) (hg:o.guard=none) (hr:(execOp a.eval o).run P w=.ok .skip w') (hk:K (a.put o.dst undef) w'):wpOp P ops Q i K a w:=by
 unfold wpOp;simp only[ho];rw[if_pos (by simp [Region.wanted,hg])];left;unfold Oper.wp;rw[hr];exact hk
theorem ze8 {i:Nat} {o:Oper} {a:Act} {w w':World} {f:FuncId} {args:Array Value} {K:Act->World->Prop} (ho:ops[i]? = some o) (hg:o.guard=none) (hr:(execOp a.eval o).run P w=.ok (.enter f args) w')
  (hc:Calls P f args w' fun e w''=>∃ v,e=.returned v/\K (a.put o.dst v) w''):wpOp P ops Q i K a w:=by
 unfold wpOp;simp only[ho];rw[if_pos (by simp [Region.wanted,hg])];left;unfold Oper.wp;rw[hr,Oper.upon_enter];refine hc.mono ?_;rintro e w'' ⟨v,rfl,h⟩;exact h
end
def acB (ops:Array Oper):Bool:=(List.range ops.size).all fun i=>match ops[i]? with
 | some o=>o.after.all fun e=>!Region.binds .any e || decide (e.on<i)
 | none=>true
theorem zBm {ops:Array Oper} (h:acB ops=true):∀ (i:Nat) (o:Oper),ops[i]? = some o->∀ e∈o.after,Region.binds .any e=true->e.on<i:=by
 intro i o ho e he hb;unfold acB at h;rw[List.all_eq_true] at h;have:=h i (List.mem_range.2 (Array.getElem?_eq_some_iff.1 ho).1);rw[ho] at this;simp only[Array.all_eq_true_iff_forall_mem] at this;have:=this e he;rw[hb] at this;simpa using this
structure Slots (n:Nat) (D:Nat->Option Nat) (V:Nat->Value) (L:Array Bool) (a0 a:Act):Prop where
 size:a.tmps.size=a0.tmps.size
 defers:a.defers=a0.defers
 val:∀ i d,i<n->D i=some d->On L i->a.tmps[d]? = some (V i)
 rest:∀ s,(∀ i,i<n->D i≠some s)->a.tmps[s]? = a0.tmps[s]?
theorem Slots.start (n:Nat) (D:Nat->Option Nat) (V:Nat->Value) (m:Nat) (a:Act):Slots n D V (Array.replicate m false) a a :=
 ⟨rfl,rfl,(fun i d _ _ h=>by
  unfold On at h;rw[Array.getD_eq_getD_getElem?] at h;by_cases q:i<m
  ·rw[Array.getElem?_eq_getElem (by simpa using q)] at h;simp at h
  ·rw[Array.getElem?_eq_none (by simpa using q)] at h;cases h),fun _ _=>rfl⟩
theorem Slots.eval {n:Nat} {D:Nat->Option Nat} {V:Nat->Value} {L:Array Bool} {a0 a:Act} (h:Slots n D V L a0 a) (i d:Nat) (hi:i<n) (hd:D i=some d) (ho:On L i):a.eval (.tmp d)=V i:=by
 show a.tmps.getD d undef=_;rw[Array.getD_eq_getD_getElem?,h.val i d hi hd ho];rfl
theorem Slots.ext {n:Nat} {D:Nat->Option Nat} {V:Nat->Value} {L:Array Bool} {a0 a:Act} (h:Slots n D V L a0 a) (s:Nat) (hs:∀ i,i<n->D i≠some s):a.eval (.tmp s)=a0.eval (.tmp s):=by
 show a.tmps.getD s undef=a0.tmps.getD s undef;rw[Array.getD_eq_getD_getElem?,Array.getD_eq_getD_getElem?,h.rest s hs]
theorem Slots.put {n:Nat} {D:Nat->Option Nat} {V V':Nat->Value} {L:Array Bool} {a0 a:Act} (h:Slots n D V L a0 a) (i:Nat) (hi:i<n) (hL:i<L.size) (hinj:∀ j d,j<n->D i=some d->D j=some d->j=i) (hsz:∀ d,D i=some d->d<a0.tmps.size)
  (v:Value) (hv:(D i).isSome=true->v=V' i) (hV:∀ j,j<n->On L j->V j=V' j):Slots n D V' (L.setIfInBounds i true) a0 (a.put (D i) v):=by
 cases hd:D i with
 | none =>
  refine ⟨h.size,h.defers,fun j d hj hjd ho=>?_,h.rest⟩;rcases zf2 ho with q|q
  ·subst q;rw[hd] at hjd;cases hjd
  ·rw[<- hV j hj q];exact h.val j d hj hjd q
 | some d =>
  have hv':v=V' i:=hv (by rw[hd];rfl);refine ⟨?_,h.defers,fun j d' hj hjd ho=>?_,fun s hs=>?_⟩
  ·show (a.tmps.setIfInBounds d v).size=_;rw[Array.size_setIfInBounds];exact h.size
  ·show (a.tmps.setIfInBounds d v)[d']? = _;by_cases q:d=d'
   ·subst q;obtain rfl:=hinj j d hj hd hjd;rw[Array.getElem?_setIfInBounds_self_of_lt (by rw[h.size];exact hsz d hd),hv']
   ·rw[Array.getElem?_setIfInBounds_ne q];rcases zf2 ho with q2|q2
    ·subst q2;rw[hd] at hjd;cases hjd;exact absurd rfl q
    ·rw[<- hV j hj q2];exact h.val j d' hj hjd q2
  ·show (a.tmps.setIfInBounds d v)[s]? = _;rw[Array.getElem?_setIfInBounds_ne (fun e=>hs i hi (by rw[hd,e]))];exact h.rest s hs
theorem zgH (m i:Nat):¬ On (Array.replicate m false) i:=by
 unfold On;intro h;rw[Array.getD_eq_getD_getElem?] at h;by_cases q:i<m
 ·rw[Array.getElem?_eq_getElem (by simpa using q)] at h;simp at h
 ·rw[Array.getElem?_eq_none (by simpa using q)] at h;cases h
theorem zaF {α:Type} {n:Nat} {l:List α} (h:l.length=n+1):∃ x t,l=x :: t/\t.length=n:=by
 cases l with
 | nil=>cases h
 | cons x t=>exact ⟨x,t,rfl,by simpa using h⟩
def zsW (e:Bs × Value) (i:Nat):MapEntry:={ key:=.string (bs e.1),val:=e.2,born:=i }
def zhP (es:List (Bs × Value)):Array MapEntry:=(es.mapIdx fun i e=>zsW e i).toArray
def MapT (w:World) (m:Nat) (es:List (Bs × Value)):Prop:=w.heap[m]? = some (.map (zhP es) es.length)
def zsX (w:World) (m:Nat) (es:List (Bs × Value)):World:={ w with heap:=w.heap.setIfInBounds m (.map (zhP es) es.length) }
def zdV (es:List (Bs × Value)) (k:Bs):Option Value:=(es.find? fun e=>e.1 == k).map (·.2)
theorem MapT.lt {w:World} {m:Nat} {es:List (Bs × Value)} (h:MapT w m es):m<w.heap.size:=by
 rcases Nat.lt_or_ge m w.heap.size with q|q
 ·exact q
 ·unfold MapT at h;rw[Array.getElem?_eq_none q] at h;cases h
theorem MapT.only {S:Nat->Prop} {w w':World} {m:Nat} {es:List (Bs × Value)} (h:MapT w m es) (k:Only S w w') (hs:¬ S m):MapT w' m es:=by
 unfold MapT at h ⊢;rw[k.block m (MapT.lt h) hs];exact h
theorem MapT.kept {w w':World} {m:Nat} {es:List (Bs × Value)} (h:MapT w m es) (k:Kept w w'):MapT w' m es:=h.only (Only.of_kept (S:=fun _=>False) k) (fun q=>q)
theorem MapT.made (w:World):MapT (w.alloc (.map #[] 0)) w.heap.size []:=heap_alloc_new w _
theorem zg0 (w:World) (m:Nat) (es:List (Bs × Value)) (hm:m<w.heap.size):MapT (zsX w m es) m es:=by
 unfold MapT zsX;simp [hm]
theorem ze9 (w:World) (m:Nat) (es:List (Bs × Value)):Only (fun i=>i=m) w (zsX w m es) :=
 ⟨rfl,rfl,rfl,by simp [zsX],fun k hk hs=>by simp [zsX,Array.getElem?_setIfInBounds,Ne.symm hs]⟩
theorem zvQ (es:List (Bs × Value)) (e:Bs × Value):zhP (es ++ [e])=(zhP es).push (zsW e es.length):=by
 unfold zhP;rw[List.mapIdx_append];simp
theorem znN (es:List (Bs × Value)):(zhP es).toList=es.mapIdx fun i e=>zsW e (i+0):=by simp [zhP]
theorem zc7 (e:Bs × Value) (es:List (Bs × Value)) (k:Bs):zdV (e :: es) k=if e.1=k then some e.2 else zdV es k:=by
 unfold zdV;rw[List.find?_cons];by_cases h:e.1=k
 ·rw[if_pos h];simp [h]
 ·rw[if_neg h];have:(e.1 == k)=false:=(by simpa using h);rw[this]
theorem zEv (k:Bs):∀ (l:List (Bs × Value)) (i j:Nat),
  (zdV l k=none/\Instr.findNow .string (.string (bs k)) (l.mapIdx fun i' e=>zsW e (i'+i)) j=some none) \/
  (∃ (n:Nat) (v:Value),zdV l k=some v/\l[n]? = some (k,v)/\Instr.findNow .string (.string (bs k)) (l.mapIdx fun i' e=>zsW e (i'+i)) j=some (some (n+j,v))/\∀ u k',zdV (l.set n (k,u)) k'=if k'=k then some u else zdV l k')
 | [],_,_=>.inl ⟨rfl,rfl⟩
 | e :: l,i,j=>by
  rw[List.mapIdx_cons,zc7];unfold Instr.findNow;by_cases h:e.1=k
  ·right;have hx:(bs k == bs e.1)=true:=(by rw[zjP,beq_iff_eq];exact h.symm);refine ⟨0,e.2,by rw[if_pos h],by rw[<- h];rfl,?_,fun u k'=>?_⟩
   ·simp [zsW,Instr.sameNow,hx]
   ·rw[List.set_cons_zero,zc7,zc7];by_cases q:k'=k
    ·rw[if_pos q,if_pos q.symm]
    ·rw[if_neg q,if_neg (fun e=>q e.symm),if_neg (fun e'=>q (by rw[<- e',h]))]
  ·have hx:(bs k == bs e.1)=false:=(by rw[zjP,beq_eq_false_iff_ne];exact fun q=>h q.symm);have hm:(l.mapIdx fun i' x=>zsW x (i'+1+i))=l.mapIdx fun i' x=>zsW x (i'+(i+1)):=by
    congr 1;funext a b;congr 1;omega
   rw[if_neg h];simp only[zsW,Instr.sameNow,hx] at hm ⊢;rcases zEv k l (i+1) (j+1) with ⟨g1,g2⟩|⟨n,v,g1,g2,g3,g4⟩
   ·left;simp only[zsW] at g2;rw[hm];exact ⟨g1,g2⟩
   ·right;simp only[zsW] at g3;rw[hm];refine ⟨n+1,v,g1,by simpa using g2,by rw[g3];congr 3;omega,fun u k'=>?_⟩;rw[List.set_cons_succ,zc7,zc7,g4];by_cases q:e.1=k'
    ·rw[if_pos q,if_pos q,if_neg (fun e'=>h (by rw[q,e']))]
    ·rw[if_neg q,if_neg q]
theorem zqX {es:List (Bs × Value)} {k:Bs} (h:zdV es k=none) (v:Value) (k':Bs):zdV (es ++ [(k,v)]) k'=if k'=k then some v else zdV es k':=by
 induction es with
 | nil =>
  rw[List.nil_append,zc7];by_cases q:k'=k
  ·rw[if_pos q,if_pos q.symm]
  ·rw[if_neg q,if_neg (fun e=>q e.symm)]
 | cons e es ih =>
  rw[zc7] at h;by_cases q:e.1=k
  ·rw[if_pos q] at h;cases h
  ·rw[if_neg q] at h;rw[List.cons_append,zc7,zc7,ih h];by_cases q2:e.1=k'
   ·rw[if_pos q2,if_pos q2,if_neg (fun e'=>q (by rw[q2,e']))]
   ·rw[if_neg q2,if_neg q2]
section
variable {P:Program} {tm ti te:TypeId}
theorem zfA (hi:P.underlying ti=some .string) (e:Bool) (s:ByteArray) (w:World):(Instr.checkKey e 10000 ti (.string s)).run P w=.ok () w:=by
 show (Instr.checkKey e (9999+1) ti (.string s)).run P w=.ok () w;rw[Instr.checkKey];simp only[Sem.run_bind,run_underlying hi,Result.andThen];simp [Sem.run_pure]
theorem zE2 (hi:P.underlying ti=some .string) (w:World) (es:List (Bs × Value)) (k:Bs) :
  (zdV es k=none/\(Instr.findKey ti (.string (bs k)) (zhP es).toList).run P w=.ok none w) \/
  (∃ n v,zdV es k=some v/\es[n]? = some (k,v)/\(Instr.findKey ti (.string (bs k)) (zhP es).toList).run P w=.ok (some (n,v)) w/\∀ u k',zdV (es.set n (k,u)) k'=if k'=k then some u else zdV es k'):=by
 rcases zEv k es 0 0 with ⟨g1,g2⟩|⟨n,v,g1,g2,g3,g4⟩
 ·left;refine ⟨g1,?_⟩;unfold Instr.findKey;simp only[Sem.run_bind,run_underlying hi,Result.andThen,znN,g2];simp [Sem.run_pure]
 ·right;refine ⟨n,v,g1,g2,?_,g4⟩;unfold Instr.findKey;simp only[Sem.run_bind,run_underlying hi,Result.andThen,znN,g3];simp [Sem.run_pure]
theorem zBn (hm:P.underlying tm=some (.map ti te)) (hi:P.underlying ti=some .string) (w:World) (m:Nat) (es:List (Bs × Value)) (k:Bs) (z:Value) (hz:(zeroValue te).run P w=.ok z w) (h:MapT w m es) :
  (Instr.lookup tm (.map (some m)) (.string (bs k)) true).run P w=.ok (.tuple #[(zdV es k).getD z,.bool (zdV es k).isSome]) w:=by
 unfold MapT at h;unfold Instr.lookup;simp only[Sem.run_bind,run_underlying hm,Result.andThen];rcases zE2 hi w es k with ⟨g1,g2⟩|⟨n,v,g1,_,g3,_⟩
 ·simp only[getObj,Sem.run_bind,Sem.run,h,Result.andThen,Sem.run_pure,zfA hi,g2,g1,hz];simp [Sem.run_pure]
 ·simp only[getObj,Sem.run_bind,Sem.run,h,Result.andThen,Sem.run_pure,zfA hi,g3,g1];simp [Sem.run_pure]
theorem zFs (hm:P.underlying tm=some (.map ti te)) (hi:P.underlying ti=some .string) (w:World) (m:Nat) (es:List (Bs × Value)) (k:Bs) (v:Value) (h:MapT w m es) (hk:zdV es k=none) :
  (Instr.mapUpdate tm (.map (some m)) (.string (bs k)) v).run P w=.ok () (zsX w m (es ++ [(k,v)])):=by
 unfold MapT at h;unfold Instr.mapUpdate;simp only[Sem.run_bind,run_underlying hm,Result.andThen];rcases zE2 hi w es k with ⟨g1,g2⟩|⟨n,v',g1,_,_,_⟩
 ·simp only[getObj,Sem.run_bind,Sem.run,h,Result.andThen,Sem.run_pure,zfA hi,g2,setObj];refine congrArg (Result.ok ()) ?_;unfold zsX;rw[zvQ];simp [zsW]
 ·rw[hk] at g1;cases g1
theorem zBo (k:ByteArray) (w:World):(Instr.keyThatStays (.string k) (.string k)).run P w=.ok (.string k) w:=by
 unfold Instr.keyThatStays;have e:Instr.sameBits 10000 (.string k) (.string k)=true:=by
  show (k == k)=true;show (k.data == k.data)=true;exact beq_self_eq_true _
 rw[e];rfl
theorem zBp (hm:P.underlying tm=some (.map ti te)) (hi:P.underlying ti=some .string) (w:World) (m:Nat) (es:List (Bs × Value)) (k:Bs) (v v0:Value) (h:MapT w m es) (hk:zdV es k=some v0) :
  ∃ es',(∀ k',zdV es' k'=if k'=k then some v else zdV es k')/\(Instr.mapUpdate tm (.map (some m)) (.string (bs k)) v).run P w=.ok () (zsX w m es'):=by
 unfold MapT at h;rcases zE2 hi w es k with ⟨g1,_⟩|⟨n,v',g1,g2,g3,g4⟩
 ·rw[hk] at g1;cases g1
 ·rw[hk] at g1;cases g1;refine ⟨es.set n (k,v),g4 v,?_⟩;unfold Instr.mapUpdate;simp only[Sem.run_bind,run_underlying hm,Result.andThen];have e1:(zhP es)[n]? = some (zsW (k,v0) n):=(by unfold zhP;simp [g2]);simp only[getObj,Sem.run_bind,Sem.run,h,Result.andThen,Sem.run_pure,zfA hi,g3,setObj,e1,Option.map_some,Option.getD_some,zsW,zBo];refine congrArg (Result.ok ()) ?_;unfold zsX;have e2:((zhP es).modify n fun e=>{ e with key:=.string (bs k),val:=v })=zhP (es.set n (k,v)):=by
   apply Array.ext_getElem?;intro i;rw[Array.getElem?_modify];by_cases q:n=i
   ·subst q;rw[if_pos rfl,e1];unfold zhP;have hn:=(List.getElem?_eq_some_iff.1 g2).1;simp [zsW,hn]
   ·rw[if_neg q];unfold zhP;simp [List.getElem?_set,q]
  have e3:(es.set n (k,v)).length=es.length:=(by simp);rw[e3]
  first|rw[e2]|(trace_state;rfl)
end
end Go.Proofs.YtmcoomlkbgiboaaGreatDoor
