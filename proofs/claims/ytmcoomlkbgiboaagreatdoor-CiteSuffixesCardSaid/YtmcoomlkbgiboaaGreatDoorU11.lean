/- (*reader).add of package bib. Conditions: lengths. -/
import Derived.Test.YtmcoomlkbgiboaaGreatDoorU10
import Derived.Test.YtmcoomlkbgiboaaGreatDoorU07
import Derived.Test.YtmcoomlkbgiboaaGreatDoorU04
import Derived.Test.YtmcoomlkbgiboaaGreatDoorU02
import Derived.Deep.RegionLaw
set_option linter.all false
namespace Go.Proofs.YtmcoomlkbgiboaaGreatDoor
open Go.RowKit
structure SrcT where
 key:Bs
 type:Bs
 author:List P4
 editor:List P4
 fields:List Pr
def zsP (e:Int × Value) (i:Nat):MapEntry:={ key:=.int .i64 e.1,val:=e.2,born:=i }
def zh4 (es:List (Int × Value)):Array MapEntry:=(es.mapIdx fun i e=>zsP e i).toArray
def MapV (w:World) (m:Nat) (es:List (Int × Value)):Prop:=w.heap[m]? = some (.map (zh4 es) es.length)
def zoI (w:World) (m:Nat) (es:List (Int × Value)):World:={ w with heap:=w.heap.setIfInBounds m (.map (zh4 es) es.length) }
def zdG (es:List (Int × Value)) (k:Int):Option Value:=(es.find? fun e=>e.1 == k).map (·.2)
theorem MapV.lt {w:World} {m:Nat} {es:List (Int × Value)} (h:MapV w m es):m<w.heap.size:=by
 rcases Nat.lt_or_ge m w.heap.size with q|q
 ·exact q
 ·unfold MapV at h;rw[Array.getElem?_eq_none q] at h;cases h
theorem MapV.only {S:Nat->Prop} {w w':World} {m:Nat} {es:List (Int × Value)} (h:MapV w m es) (k:Only S w w') (hs:¬ S m):MapV w' m es:=by
 unfold MapV at h ⊢;rw[k.block m (MapV.lt h) hs];exact h
theorem MapV.kept {w w':World} {m:Nat} {es:List (Int × Value)} (h:MapV w m es) (k:Kept w w'):MapV w' m es:=h.only (Only.of_kept (S:=fun _=>False) k) (fun q=>q)
theorem MapV.made (w:World):MapV (w.alloc (.map #[] 0)) w.heap.size []:=heap_alloc_new w _
theorem zh5 (w:World) (m:Nat) (es:List (Int × Value)) (hm:m<w.heap.size):MapV (zoI w m es) m es:=by
 unfold MapV zoI;simp [hm]
theorem zc6 (w:World) (m:Nat) (es:List (Int × Value)):Only (fun i=>i=m) w (zoI w m es) :=
 ⟨rfl,rfl,rfl,by simp [zoI],fun k hk hs=>by simp [zoI,Array.getElem?_setIfInBounds,Ne.symm hs]⟩
theorem zvE (es:List (Int × Value)) (e:Int × Value):zh4 (es ++ [e])=(zh4 es).push (zsP e es.length):=by
 unfold zh4;rw[List.mapIdx_append];simp
theorem znE (es:List (Int × Value)):(zh4 es).toList=es.mapIdx fun i e=>zsP e (i+0):=by simp [zh4]
theorem zx3 (e:Int × Value) (es:List (Int × Value)) (k:Int):zdG (e :: es) k=if e.1=k then some e.2 else zdG es k:=by
 unfold zdG;rw[List.find?_cons];by_cases h:e.1=k
 ·rw[if_pos h];simp [h]
 ·rw[if_neg h];have:(e.1 == k)=false:=(by simpa using h);rw[this]
theorem zEs {kd:IntKind} (k:Int):∀ (l:List (Int × Value)) (i j:Nat),
  (zdG l k=none/\Instr.findNow (.int kd) (.int .i64 k) (l.mapIdx fun i' e=>zsP e (i'+i)) j=some none) \/
  (∃ (n:Nat) (v:Value),zdG l k=some v/\l[n]? = some (k,v)/\Instr.findNow (.int kd) (.int .i64 k) (l.mapIdx fun i' e=>zsP e (i'+i)) j=some (some (n+j,v)))
 | [],_,_=>.inl ⟨rfl,rfl⟩
 | e :: l,i,j=>by
  rw[List.mapIdx_cons,zx3];unfold Instr.findNow;by_cases h:e.1=k
  ·right;refine ⟨0,e.2,by rw[if_pos h],by rw[<- h];rfl,?_⟩;simp [zsP,Instr.sameNow,h]
  ·have hx:(k == e.1)=false:=(by rw[beq_eq_false_iff_ne];exact fun q=>h q.symm);have hm:(l.mapIdx fun i' x=>zsP x (i'+1+i))=l.mapIdx fun i' x=>zsP x (i'+(i+1)):=by
    congr 1;funext a b;congr 1;omega
   rw[if_neg h];simp only[zsP,Instr.sameNow,hx,if_true] at hm ⊢;rcases zEs (kd:=kd) k l (i+1) (j+1) with ⟨g1,g2⟩|⟨n,v,g1,g2,g3⟩
   ·left;simp only[zsP] at g2;rw[hm];exact ⟨g1,g2⟩
   ·right;simp only[zsP] at g3;rw[hm];exact ⟨n+1,v,g1,by simpa using g2,by rw[g3];congr 3;omega⟩
section
variable {P:Program} {tm ti te:TypeId}
theorem ze1 (hi:P.underlying ti=some (.int .i64)) (e:Bool) (k:Int) (w:World):(Instr.checkKey e 10000 ti (.int .i64 k)).run P w=.ok () w:=by
 unfold Instr.checkKey;simp only[Sem.run_bind,run_underlying hi,Result.andThen];rfl
theorem zE0 (hi:P.underlying ti=some (.int .i64)) (w:World) (es:List (Int × Value)) (k:Int) :
  (zdG es k=none/\(Instr.findKey ti (.int .i64 k) (zh4 es).toList).run P w=.ok none w) \/
  (∃ n v,zdG es k=some v/\es[n]? = some (k,v)/\(Instr.findKey ti (.int .i64 k) (zh4 es).toList).run P w=.ok (some (n,v)) w):=by
 rcases zEs (kd:=.i64) k es 0 0 with ⟨g1,g2⟩|⟨n,v,g1,g2,g3⟩
 ·left;refine ⟨g1,?_⟩;unfold Instr.findKey;simp only[Sem.run_bind,run_underlying hi,Result.andThen,znE,g2];simp [Sem.run_pure]
 ·right;refine ⟨n,v,g1,g2,?_⟩;unfold Instr.findKey;simp only[Sem.run_bind,run_underlying hi,Result.andThen,znE,g3];simp [Sem.run_pure]
theorem zvF (hm:P.underlying tm=some (.map ti te)) (hi:P.underlying ti=some (.int .i64)) (w:World) (m:Nat) (es:List (Int × Value)) (k:Int) (z:Value) (hz:(zeroValue te).run P w=.ok z w) (h:MapV w m es) :
  (Instr.lookup tm (.map (some m)) (.int .i64 k) false).run P w=.ok ((zdG es k).getD z) w:=by
 unfold MapV at h;unfold Instr.lookup;simp only[Sem.run_bind,run_underlying hm,Result.andThen];rcases zE0 hi w es k with ⟨g1,g2⟩|⟨n,v,g1,_,g3⟩
 ·simp only[getObj,Sem.run_bind,Sem.run,h,Result.andThen,Sem.run_pure,ze1 hi,g2,g1,hz];simp [Sem.run_pure]
 ·simp only[getObj,Sem.run_bind,Sem.run,h,Result.andThen,Sem.run_pure,ze1 hi,g3,g1];simp [Sem.run_pure]
theorem zkL (hm:P.underlying tm=some (.map ti te)) (hi:P.underlying ti=some (.int .i64)) (w:World) (m:Nat) (es:List (Int × Value)) (k:Int) (z:Value) (hz:(zeroValue te).run P w=.ok z w) (h:MapV w m es) :
  (Instr.lookup tm (.map (some m)) (.int .i64 k) true).run P w=.ok (.tuple #[(zdG es k).getD z,.bool (zdG es k).isSome]) w:=by
 unfold MapV at h;unfold Instr.lookup;simp only[Sem.run_bind,run_underlying hm,Result.andThen];rcases zE0 hi w es k with ⟨g1,g2⟩|⟨n,v,g1,_,g3⟩
 ·simp only[getObj,Sem.run_bind,Sem.run,h,Result.andThen,Sem.run_pure,ze1 hi,g2,g1,hz];simp [Sem.run_pure]
 ·simp only[getObj,Sem.run_bind,Sem.run,h,Result.andThen,Sem.run_pure,ze1 hi,g3,g1];simp [Sem.run_pure]
theorem zEt (hm:P.underlying tm=some (.map ti te)) (hi:P.underlying ti=some (.int .i64)) (w:World) (m:Nat) (es:List (Int × Value)) (k:Int) (v:Value) (h:MapV w m es) (hk:zdG es k=none) :
  (Instr.mapUpdate tm (.map (some m)) (.int .i64 k) v).run P w=.ok () (zoI w m (es ++ [(k,v)])):=by
 unfold MapV at h;unfold Instr.mapUpdate;simp only[Sem.run_bind,run_underlying hm,Result.andThen];rcases zE0 hi w es k with ⟨g1,g2⟩|⟨n,v',g1,_,_⟩
 ·simp only[getObj,Sem.run_bind,Sem.run,h,Result.andThen,Sem.run_pure,ze1 hi,g2,setObj];refine congrArg (Result.ok ()) ?_;unfold zoI;rw[zvE];simp [zsP]
 ·rw[hk] at g1;cases g1
theorem zBb (k:Int) (w:World):(Instr.keyThatStays (.int .i64 k) (.int .i64 k)).run P w=.ok (.int .i64 k) w:=by
 unfold Instr.keyThatStays;have e:Instr.sameBits 10000 (.int .i64 k) (.int .i64 k)=true:=by
  unfold Instr.sameBits;simp
 rw[e];rfl
theorem zvG (es:List (Int × Value)) (n:Nat) (k:Int) (v:Value) (h:es[n]? = some (k,v)):((zh4 es).modify n fun e=>{ e with key:=.int .i64 k,val:=v })=zh4 es:=by
 apply Array.ext_getElem?;intro i;rw[Array.getElem?_modify];by_cases q:n=i
 ·subst q;rw[if_pos rfl];unfold zh4;simp [h,zsP]
 ·rw[if_neg q]
theorem zx4 (es:List (Int × Value)) (n:Nat) (k:Int) (v:Value) (h:es[n]? = some (k,v)):(zh4 es)[n]? = some (zsP (k,v) n):=by
 unfold zh4;simp [h]
theorem zx5 (hm:P.underlying tm=some (.map ti te)) (hi:P.underlying ti=some (.int .i64)) (w:World) (m:Nat) (es:List (Int × Value)) (k:Int) (v:Value) (h:MapV w m es) (hk:zdG es k=some v) :
  (Instr.mapUpdate tm (.map (some m)) (.int .i64 k) v).run P w=.ok () (zoI w m es):=by
 unfold MapV at h;unfold Instr.mapUpdate;simp only[Sem.run_bind,run_underlying hm,Result.andThen];rcases zE0 hi w es k with ⟨g1,_⟩|⟨n,v',g1,g2,g3⟩
 ·rw[hk] at g1;cases g1
 ·rw[hk] at g1;cases g1;have e1:=zx4 es n k v g2;simp only[getObj,Sem.run_bind,Sem.run,h,Result.andThen,Sem.run_pure,ze1 hi,g3,setObj,e1,Option.map_some,Option.getD_some,zsP,zBb];refine congrArg (Result.ok ()) ?_;unfold zoI;have e2:=zvG es n k v g2
  first|rw[e2]|(trace_state;rfl)
end
def zx6 (k:Bs) (i:Nat):MapEntry:={ key:=.string (bs k),val:=.bool true,born:=i }
def zoJ (ks:List Bs):Array MapEntry:=(ks.mapIdx fun i k=>zx6 k i).toArray
def MapK (w:World) (m:Nat) (ks:List Bs):Prop:=w.heap[m]? = some (.map (zoJ ks) ks.length)
def zoK (w:World) (m:Nat) (ks:List Bs):World:={ w with heap:=w.heap.setIfInBounds m (.map (zoJ ks) ks.length) }
theorem MapK.lt {w:World} {m:Nat} {ks:List Bs} (h:MapK w m ks):m<w.heap.size:=by
 rcases Nat.lt_or_ge m w.heap.size with q|q
 ·exact q
 ·unfold MapK at h;rw[Array.getElem?_eq_none q] at h;cases h
theorem MapK.only {S:Nat->Prop} {w w':World} {m:Nat} {ks:List Bs} (h:MapK w m ks) (k:Only S w w') (hs:¬ S m):MapK w' m ks:=by
 unfold MapK at h ⊢;rw[k.block m (MapK.lt h) hs];exact h
theorem zgS (w:World) (m:Nat) (ks:List Bs) (hm:m<w.heap.size):MapK (zoK w m ks) m ks:=by
 unfold MapK zoK;simp [hm]
theorem zdQ (w:World) (m:Nat) (ks:List Bs):Only (fun i=>i=m) w (zoK w m ks) :=
 ⟨rfl,rfl,rfl,by simp [zoK],fun k hk hs=>by simp [zoK,Array.getElem?_setIfInBounds,Ne.symm hs]⟩
theorem zvH (ks:List Bs) (k:Bs):zoJ (ks ++ [k])=(zoJ ks).push (zx6 k ks.length):=by
 unfold zoJ;rw[List.mapIdx_append];simp
theorem znF (k:Bs):∀ (l:List Bs) (i j:Nat),k ∉ l->Instr.findNow .string (.string (bs k)) (l.mapIdx fun i' x=>zx6 x (i'+i)) j=some none
 | [],_,_,_=>rfl
 | x :: l,i,j,h=>by
  have hx:(bs k == bs x)=false:=(by rw[zjP,beq_eq_false_iff_ne];exact fun e=>h (by simp [e]));rw[List.mapIdx_cons];unfold Instr.findNow;simp only[zx6,Instr.sameNow,hx];have:=znF k l (i+1) (j+1) (fun e=>h (by simp [e]));simp only[zx6] at this;rw[<- this];congr 1;apply List.ext_getElem?;intro m;simp [List.getElem?_mapIdx];cases l[m]? <;> simp;omega
theorem znG (k:Bs):∀ (l:List Bs) (i j:Nat),k∈l->∃ m,Instr.findNow .string (.string (bs k)) (l.mapIdx fun i' x=>zx6 x (i'+i)) j=some (some (m,.bool true))
 | [],_,_,h=>by cases h
 | x :: l,i,j,h=>by
  rw[List.mapIdx_cons];unfold Instr.findNow;by_cases q:x=k
  ·have hx:(bs k == bs x)=true:=(by rw[zjP,beq_iff_eq];exact q.symm);simp only[zx6,Instr.sameNow,hx];exact ⟨_,rfl⟩
  ·have hx:(bs k == bs x)=false:=(by rw[zjP,beq_eq_false_iff_ne];exact fun e=>q e.symm);have hl:k∈l:=(by rcases List.mem_cons.1 h with e|e;exact absurd e.symm q;exact e);simp only[zx6,Instr.sameNow,hx];obtain ⟨m,hm⟩:=znG k l (i+1) (j+1) hl;refine ⟨m,?_⟩;simp only[zx6] at hm;rw[<- hm];congr 1;apply List.ext_getElem?;intro m;simp [List.getElem?_mapIdx];cases l[m]? <;> simp;omega
theorem znH (l:List Bs):(zoJ l).toList=l.mapIdx fun i' x=>zx6 x (i'+0):=by simp [zoJ]
theorem zqH (w:World) (l:List Bs) (k:Bs) (hk:k ∉ l):(Instr.findKey 9 (.string (bs k)) (zoJ l).toList).run Tryz.prog w=.ok none w:=by
 unfold Instr.findKey;simp only[Sem.run_bind,run_underlying Tryz.underlying9,Result.andThen,znH,znF k l 0 0 hk];simp [Sem.run_pure]
theorem zx7 (w:World) (l:List Bs) (k:Bs) (hk:k∈l):∃ m,(Instr.findKey 9 (.string (bs k)) (zoJ l).toList).run Tryz.prog w=.ok (some (m,.bool true)) w:=by
 obtain ⟨m,hm⟩:=znG k l 0 0 hk;refine ⟨m,?_⟩;unfold Instr.findKey;simp only[Sem.run_bind,run_underlying Tryz.underlying9,Result.andThen,znH,hm];simp [Sem.run_pure]
theorem MapK_kept {w w':World} {m:Nat} {ks:List Bs} (h:MapK w m ks) (k:Kept w w'):MapK w' m ks:=h.only (Only.of_kept (S:=fun _=>False) k) (fun q=>q)
theorem MapK_made (w:World):MapK (w.alloc (.map #[] 0)) w.heap.size []:=heap_alloc_new w _
theorem zx8 (w:World):(zeroValue 4).run Tryz.prog w=.ok (.bool false) w:=by kernel_rfl
theorem zvI (w:World) (m:Nat) (ks:List Bs) (k:Bs) (h:MapK w m ks):(Instr.lookup 73 (.map (some m)) (.string (bs k)) false).run Tryz.prog w=.ok (.bool (ks.contains k)) w:=by
 have hu:Tryz.prog.underlying 73=some (.map 9 4):=Tryz.underlying73;unfold MapK at h;unfold Instr.lookup;simp only[Sem.run_bind,run_underlying hu,Result.andThen];by_cases hk:k∈ks
 ·obtain ⟨j,hf⟩:=zx7 w ks k hk;have hc:ks.contains k=true:=(by simpa using hk);simp only[getObj,Sem.run_bind,Sem.run,h,Result.andThen,Sem.run_pure,zeX,hf,hc];simp [Sem.run_pure]
 ·have hf:=zqH w ks k hk;have hc:ks.contains k=false:=(by simpa using hk);simp only[getObj,Sem.run_bind,Sem.run,h,Result.andThen,Sem.run_pure,zeX,hf,hc,zx8];simp [Sem.run_pure]
theorem zEg (w:World) (m:Nat) (ks:List Bs) (k:Bs) (h:MapK w m ks) (hk:k ∉ ks):(Instr.mapUpdate 73 (.map (some m)) (.string (bs k)) (.bool true)).run Tryz.prog w=.ok () (zoK w m (ks ++ [k])):=by
 have hu:Tryz.prog.underlying 73=some (.map 9 4):=Tryz.underlying73;unfold MapK at h;unfold Instr.mapUpdate;simp only[Sem.run_bind,run_underlying hu,Result.andThen];simp only[getObj,Sem.run_bind,Sem.run,h,Result.andThen,Sem.run_pure,zeX,zqH _ ks k hk,setObj];refine congrArg (Result.ok ()) ?_;unfold zoK;rw[zvH];simp [zx6]
theorem MapK.kept {w w':World} {m:Nat} {ks:List Bs} (h:MapK w m ks) (k:Kept w w'):MapK w' m ks:=h.only (Only.of_kept (S:=fun _=>False) k) (fun q=>q)
def zx9:SrcT:=⟨[],[],[],[],[]⟩
end Go.Proofs.YtmcoomlkbgiboaaGreatDoor
