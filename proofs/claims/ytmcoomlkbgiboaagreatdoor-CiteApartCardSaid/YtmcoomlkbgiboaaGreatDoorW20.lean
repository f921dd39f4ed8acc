/- The text of a style and what a text says of one, in plain Lean. No condition. -/
import Derived.Test.YtmcoomlkbgiboaaGreatDoorW19
import Derived.Test.YtmcoomlkbgiboaaGreatDoorW14
import Derived.Test.YtmcoomlkbgiboaaGreatDoorW16
import Derived.Test.YtmcoomlkbgiboaaGreatDoorW18
import Derived.Test.YtmcoomlkbgiboaaGreatDoorW07
import Derived.Test.YtmcoomlkbgiboaaGreatDoorW10
import Derived.Test.YtmcoomlkbgiboaaGreatDoorW01
import Derived.Test.YtmcoomlkbgiboaaGreatDoorW02
import Derived.Test.YtmcoomlkbgiboaaGreatDoorW08
import Derived.Lib.ItoaNum
import Derived.Lib.LaidTab
import Derived.Shelf.Strconv.Itoa3
import Derived.Lib.AppendIntMem
import Derived.Orders
set_option linter.all false
namespace Go.Proofs.YtmcoomlkbgiboaaGreatDoor
open Go.RowKit
theorem zoO (n:Nat) (h:¬ n<10):Lib.decDigits n=Lib.decDigits (n / 10) ++ [UInt8.ofNat (48+n % 10)]:=by
 rw[Lib.decDigits,dif_neg h]
def zlR:Bs:=[101,100,105,116,111,114]
def ziF:Bs:=[97,117,116,104,111,114,115]
def ziG:Bs:=[101,100,105,116,111,114,115]
def zyZ:Bs:=[116,121,112,101]
structure FilT where
 key:Bs
 type:Bs
 author:List P4
 editor:List P4
 fields:List Pr
 lang:Bs
 suffix:Bs
 number:Int
 most:Int
def zi6 (c:FilT):Int:=zeZ ((zbC c.fields [121,101,97,114]).getD [])
def zlS (c:FilT):Bs:=if zi6 c=0 then [] else Lib.itoa (zi6 c)
def zAU (c:FilT):Bs:=if c.number<1 then [] else Lib.itoa c.number
def zgY (c:FilT):List (Bs × Bs):=[(zdT,zfX c.author c.lang c.most false),(zlR,zfX c.editor c.lang c.most false),(ziF,zfX c.author c.lang c.most true),(ziG,zfX c.editor c.lang c.most true),(zd0,zlS c),(zb9,c.suffix),(zaZ,zAU c),(zw9,c.key),(zyZ,c.type)]
def zy0 (l:List (Bs × Bs)) (ys ns:Bs):List (Bs × Bs):=l.map fun e=>if e.1=zd0 then (zd0,ys) else if e.1=zaZ then (zaZ,ns) else e
def znK (c:FilT) (k:Bs):Bs:=((zgY c).find? fun e=>e.1 == k).elim ((zbC c.fields k).getD []) (·.2)
def FitF (c:FilT):Prop:=c.author.length<=900/\c.editor.length<=900/\(∀ q∈c.author,zd7 q<=10000)/\(∀ q∈c.editor,zd7 q<=10000)/\(-9223372036854775808<=c.most/\c.most<=9223372036854775807)/\c.fields.length<=1100000/\((zbC c.fields [121,101,97,114]).getD []).length<=140737488355328/\(-9223372036854775808<=c.number/\c.number<=9223372036854775807)
theorem zoP (n:Int) (w:World) (h0 : -9223372036854775808<=n) (h1:n<=9223372036854775807) (h:Lib.TabIs Tryz.prog w "internal/strconv.uint64pow10" .u64 Lib.pow10Tab):Calls Tryz.prog 89 #[.int .i64 n] w fun e w'=>e=.returned (.string (bs (Lib.itoa n)))/\Kept w w':=by
 refine (Tryz.strconv_Itoa n h0 h1 w h).mono ?_;rintro e w' ⟨rfl,k,os,rfl⟩;exact ⟨rfl,Lib.below_grow w.heap.size w (Nat.le_refl _) k os⟩
theorem zd1 {w w':World} (h:Lib.TabIs Tryz.prog w "internal/strconv.uint64pow10" .u64 Lib.pow10Tab) (k:Kept w w'):Lib.TabIs Tryz.prog w' "internal/strconv.uint64pow10" .u64 Lib.pow10Tab:=Lib.tabBelow_of_tabIs h w' k
def On (L:Array Bool) (i:Nat):Prop:=L.getD i false=true
theorem zeL {L:Array Bool} {i:Nat} (h:i<L.size):On (L.setIfInBounds i true) i:=by
 unfold On;simp [Array.getD_eq_getD_getElem?,h]
theorem ze6 {L:Array Bool} {i j:Nat} (h:i≠j):On (L.setIfInBounds i true) j↔On L j:=by
 unfold On;rw[getD_set_ne false h]
theorem zfY {L:Array Bool} {i j:Nat} (h:On (L.setIfInBounds i true) j):j=i\/On L j:=by
 by_cases q:i=j
 ·exact .inl q.symm
 ·exact .inr ((ze6 q).1 h)
theorem zbA {L:Array Bool} {i j:Nat} (h:On L j):On (L.setIfInBounds i true) j:=getD_set_true h
theorem ztZ {L:Array Bool} {i:Nat} (h:L.getD i true=false):¬ On L i:=by
 unfold On;intro q;have hi:i<L.size:=by
  rcases Nat.lt_or_ge i L.size with x|x
  ·exact x
  ·rw[Array.getD_eq_getD_getElem?,Array.getElem?_eq_none x] at h;cases h
 rw[Array.getD_eq_getD_getElem?,Array.getElem?_eq_getElem hi] at h q;simp only[Option.getD_some] at h q;rw[h] at q;cases q
def zxA (L:Array Bool):Nat->Nat
 | 0=>0
 | n+1=>zxA L n+(if L.getD n true=true then 0 else 1)
theorem zt0 (L:Array Bool) (i:Nat) (h:L.getD i true=false):∀ n,zxA (L.setIfInBounds i true) n+(if i<n then 1 else 0)=zxA L n
 | 0=>by simp [zxA]
 | n+1=>by
  have ih:=zt0 L i h n;rw[zxA,zxA];by_cases q:i=n
  ·subst q;rw[if_neg (Nat.lt_irrefl _)] at ih;have hi:i<L.size:=by
    rcases Nat.lt_or_ge i L.size with x|x
    ·exact x
    ·rw[Array.getD_eq_getD_getElem?,Array.getElem?_eq_none x] at h;cases h
   have e:(L.setIfInBounds i true).getD i true=true:=(by simp [Array.getD_eq_getD_getElem?,hi]);rw[e,h];simp;omega
  ·rw[getD_set_ne true q];generalize (if L.getD n true=true then 0 else 1)=z;by_cases q2:i<n
   ·have q3:i<n+1:=(by omega);simp only[q2,q3,if_true] at ih ⊢;omega
   ·have q3:¬ i<n+1:=(by omega);simp only[q2,q3,if_false] at ih ⊢;omega
section
variable {P:Program} {ops:Array Oper} {Q:Exit->Act->World->Prop} {md:Region.Mode}
theorem zy1 (I:Array Bool->Act->World->Prop) (hac:∀ (i:Nat) (o:Oper),ops[i]? = some o->∀ e∈o.after,Region.binds md e=true->e.on<i)
  (hend:∀ L a w,I L a w->(∀ i,i<ops.size->L.getD i true=true)->Q .normal a w)
  (hstep:∀ L a w i,I L a w->i<ops.size->L.getD i true=false->(∀ o,ops[i]? = some o->∀ e∈o.after,Region.binds md e=true->On L e.on)->wpOp P ops Q i (I (L.setIfInBounds i true)) a w) :
  ∀ (fuel:Nat) L a w,zxA L ops.size<=fuel->I L a w->wpAny P md ops Q fuel L a w:=by
 have hall:∀ L,L.size=L.size->Region.ready md ops L=[]->(∀ i,i<ops.size->L.getD i true=true):=by
  intro L _ hr i
  induction i using Nat.strongRecOn with
  | ind i ih =>
   intro hi;cases hq:L.getD i true with
   | true=>rfl
   | false =>
    exfalso;have:i∈Region.ready md ops L:=by
     rw[mem_ready];refine ⟨hq,ops[i],Array.getElem?_eq_getElem hi,fun e he hb=>?_⟩;have h1:=hac i ops[i] (Array.getElem?_eq_getElem hi) e he hb;have h2:=ih e.on h1 (by omega);have hlt:e.on<L.size:=by
      rcases Nat.lt_or_ge i L.size with x|x
      ·omega
      ·rw[Array.getD_eq_getD_getElem?,Array.getElem?_eq_none x] at hq;cases hq
     rw[Array.getD_eq_getD_getElem?,Array.getElem?_eq_getElem hlt] at h2 ⊢;exact h2
    rw[hr] at this;cases this
 intro fuel
 induction fuel with
 | zero =>
  intro L a w hf hI;have hz:∀ n,zxA L n=0->∀ i,i<n->L.getD i true=true:=by
   intro n
   induction n with
   | zero=>intro _ i hi;omega
   | succ n ih =>
    intro h i hi;rw[zxA] at h;by_cases q:i=n
    ·subst q;cases hq:L.getD i true with
     | true=>rfl
     | false=>rw[hq] at h;simp at h
    ·exact ih (by omega) i (by omega)
  have ha:=hz ops.size (by omega);refine ⟨?_,hend L a w hI ha⟩;cases hr:Region.ready md ops L with
  | nil=>rfl
  | cons i r =>
   exfalso;have hi:i∈Region.ready md ops L:=(by rw[hr];exact List.mem_cons_self ..);rw[mem_ready] at hi;obtain ⟨h0,o,ho,_⟩:=hi;have:=ha i (Array.getElem?_eq_some_iff.1 ho).1;rw[this] at h0;cases h0
 | succ fuel ih =>
  intro L a w hf hI;refine ⟨fun hr=>hend L a w hI (hall L rfl hr),fun i hi=>?_⟩;rw[mem_ready] at hi;obtain ⟨h0,o,ho,hed⟩:=hi;have hlt:=(Array.getElem?_eq_some_iff.1 ho).1;have hs:=zt0 L i h0 ops.size;rw[if_pos hlt] at hs;refine wpOp_mono (fun a' w' hI'=>ih _ a' w' (by omega) hI') (hstep L a w i hI hlt h0 (fun o' ho' e he hb=>?_));rw[ho] at ho';cases ho';exact hed e he hb
theorem zvZ (n:Nat):zxA (Array.replicate n false) n<=n:=by
 have:∀ (L:Array Bool) m,zxA L m<=m:=by
  intro L m
  induction m with
  | zero=>exact Nat.le_refl _
  | succ m ih=>rw[zxA];split <;> omega
 exact this _ _
theorem zfP {id:Nat} {a:Act} {w:World} (I:Array Bool->Act->World->Prop) (hm:P.follows .mixedOrders=true) (hac:∀ (i:Nat) (o:Oper),ops[i]? = some o->∀ e∈o.after,Region.binds .any e=true->e.on<i)
  (h0:I (Array.replicate ops.size false) a w.drew)
  (hend:∀ L a w,I L a w->(∀ i,i<ops.size->L.getD i true=true)->Q .normal a w)
  (hstep:∀ L a w i,I L a w->i<ops.size->L.getD i true=false->(∀ o,ops[i]? = some o->∀ e∈o.after,Region.binds .any e=true->On L e.on)->wpOp P ops Q i (I (L.setIfInBounds i true)) a w) :
  (Code.region id ops true).wp P Q a w :=
 wp_region_any hm (zy1 I hac hend hstep ops.size _ _ _ (zvZ _) h0)
theorem zaQ {i:Nat} {o:Oper} {a:Act} {w w':World} {v:Value} {K:Act->World->Prop} (ho:ops[i]? = some o) (hg:o.guard=none) (hr:(execOp a.eval o).run P w=.ok (.value v) w') (hk:K (a.put o.dst v) w'):wpOp P ops Q i K a w:=by
 unfold wpOp;simp only[ho];rw[if_pos (by simp [Region.wanted,hg])];left;unfold Oper.wp;rw[hr];exact hk
theorem zcN {i:Nat} {o:Oper} {a:Act} {w w':World} {K:Act->World->Prop} (ho:ops[i]? = some o) (hg:o.guard=none) (hr:(execOp a.eval o).run P w=.ok .skip w') (hk:K (a.put o.dst undef) w'):wpOp P ops Q i K a w:=by
 unfold wpOp;simp only[ho];rw[if_pos (by simp [Region.wanted,hg])];left;unfold Oper.wp;rw[hr];exact hk
theorem ze7 {i:Nat} {o:Oper} {a:Act} {w w':World} {f:FuncId} {args:Array Value} {K:Act->World->Prop} (ho:ops[i]? = some o) (hg:o.guard=none) (hr:(execOp a.eval o).run P w=.ok (.enter f args) w')
  (hc:Calls P f args w' fun e w''=>∃ v,e=.returned v/\K (a.put o.dst v) w''):wpOp P ops Q i K a w:=by
 unfold wpOp;simp only[ho];rw[if_pos (by simp [Region.wanted,hg])];left;unfold Oper.wp;rw[hr,Oper.upon_enter];refine hc.mono ?_;rintro e w'' ⟨v,rfl,h⟩;exact h
end
def acB (ops:Array Oper):Bool:=(List.range ops.size).all fun i=>match ops[i]? with
 | some o=>o.after.all fun e=>!Region.binds .any e || decide (e.on<i)
 | none=>true
theorem zBy {ops:Array Oper} (h:acB ops=true):∀ (i:Nat) (o:Oper),ops[i]? = some o->∀ e∈o.after,Region.binds .any e=true->e.on<i:=by
 intro i o ho e he hb;unfold acB at h;rw[List.all_eq_true] at h;have:=h i (List.mem_range.2 (Array.getElem?_eq_some_iff.1 ho).1);rw[ho] at this;simp only[Array.all_eq_true_iff_forall_mem] at this;have:=this e he;rw[hb] at this;simpa using this
structure Slots (n:Nat) (D:Nat->Option Nat) (V:Nat->Value) (L:Array Bool) (a0 a:Act):Prop where
 size:a.tmps.size=a0.tmps.size
 defers:a.defers=a0.defers
 val:∀ i d,i<n->D i=some d->On L i->a.tmps[d]? = some (V i)
 rest:∀ s,(∀ i,i<n->D i≠some s)->a.tmps[s]? = a0.tmps[s]?
theorem Slots.start (n:Nat) (D:Nat->Option Nat) (V:Nat->Value) (m:Nat) (a:Act):Slots n D V (Array.replicate m false) a a :=
 ⟨rfl,rfl,(fun i d _ _ h=>by
  unfold On at h;rw[Array.getD_eq_getD_getElem?] at h;by_cases q:i<m
  ·rw[Array.getElem?_eq_getElem (by simpa using q)] at h;simp at h
  ·rw[Array.getElem?_eq_none (by simpa using q)] at h;cases h),fun _ _=>rfl⟩
theorem Slots.eval {n:Nat} {D:Nat->Option Nat} {V:Nat->Value} {L:Array Bool} {a0 a:Act} (h:Slots n D V L a0 a) (i d:Nat) (hi:i<n) (hd:D i=some d) (ho:On L i):a.eval (.tmp d)=V i:=by
 show a.tmps.getD d undef=_;rw[Array.getD_eq_getD_getElem?,h.val i d hi hd ho];rfl
theorem Slots.ext {n:Nat} {D:Nat->Option Nat} {V:Nat->Value} {L:Array Bool} {a0 a:Act} (h:Slots n D V L a0 a) (s:Nat) (hs:∀ i,i<n->D i≠some s):a.eval (.tmp s)=a0.eval (.tmp s):=by
 show a.tmps.getD s undef=a0.tmps.getD s undef;rw[Array.getD_eq_getD_getElem?,Array.getD_eq_getD_getElem?,h.rest s hs]
theorem Slots.put {n:Nat} {D:Nat->Option Nat} {V V':Nat->Value} {L:Array Bool} {a0 a:Act} (h:Slots n D V L a0 a) (i:Nat) (hi:i<n) (hL:i<L.size) (hinj:∀ j d,j<n->D i=some d->D j=some d->j=i) (hsz:∀ d,D i=some d->d<a0.tmps.size)
  (v:Value) (hv:(D i).isSome=true->v=V' i) (hV:∀ j,j<n->On L j->V j=V' j):Slots n D V' (L.setIfInBounds i true) a0 (a.put (D i) v):=by
 cases hd:D i with
 | none =>
  refine ⟨h.size,h.defers,fun j d hj hjd ho=>?_,h.rest⟩;rcases zfY ho with q|q
  ·subst q;rw[hd] at hjd;cases hjd
  ·rw[<- hV j hj q];exact h.val j d hj hjd q
 | some d =>
  have hv':v=V' i:=hv (by rw[hd];rfl);refine ⟨?_,h.defers,fun j d' hj hjd ho=>?_,fun s hs=>?_⟩
  ·show (a.tmps.setIfInBounds d v).size=_;rw[Array.size_setIfInBounds];exact h.size
  ·show (a.tmps.setIfInBounds d v)[d']? = _;by_cases q:d=d'
   ·subst q;obtain rfl:=hinj j d hj hd hjd;rw[Array.getElem?_setIfInBounds_self_of_lt (by rw[h.size];exact hsz d hd),hv']
   ·rw[Array.getElem?_setIfInBounds_ne q];rcases zfY ho with q2|q2
    ·subst q2;rw[hd] at hjd;cases hjd;exact absurd rfl q
    ·rw[<- hV j hj q2];exact h.val j d' hj hjd q2
  ·show (a.tmps.setIfInBounds d v)[s]? = _;rw[Array.getElem?_setIfInBounds_ne (fun e=>hs i hi (by rw[hd,e]))];exact h.rest s hs
theorem zgA (m i:Nat):¬ On (Array.replicate m false) i:=by
 unfold On;intro h;rw[Array.getD_eq_getD_getElem?] at h;by_cases q:i<m
 ·rw[Array.getElem?_eq_getElem (by simpa using q)] at h;simp at h
 ·rw[Array.getElem?_eq_none (by simpa using q)] at h;cases h
theorem zaD {α:Type} {n:Nat} {l:List α} (h:l.length=n+1):∃ x t,l=x :: t/\t.length=n:=by
 cases l with
 | nil=>cases h
 | cons x t=>exact ⟨x,t,rfl,by simpa using h⟩
end Go.Proofs.YtmcoomlkbgiboaaGreatDoor
