/- Maps in memory whose keys are whole numbers: look-up, a key that is new, a key that is put again. No condition. -/
import Derived.Test.YtmcoomlkbgiboaaGreatDoorU07
import Derived.Test.YtmcoomlkbgiboaaGreatDoorU04
import Derived.Test.YtmcoomlkbgiboaaGreatDoorU02
import Derived.Test.YtmcoomlkbgiboaaGreatDoorU10

set_option linter.all false
namespace Go.Proofs.YtmcoomlkbgiboaaGreatDoor
open Go.RowKit

def entV (e:Int × Value) (i:Nat):MapEntry:={ key:=.int .i64 e.1,val:=e.2,born:=i }
def entsV (es:List (Int × Value)):Array MapEntry:=(es.mapIdx fun i e=>entV e i).toArray
/-- Block m is the map of the entries es. -/
def MapV (w:World) (m:Nat) (es:List (Int × Value)):Prop:=w.heap[m]? = some (.map (entsV es) es.length)
/-- The world with other entries in block m. -/
def putV (w:World) (m:Nat) (es:List (Int × Value)):World:={ w with heap:=w.heap.setIfInBounds m (.map (entsV es) es.length) }
def getV (es:List (Int × Value)) (k:Int):Option Value:=(es.find? fun e=>e.1 == k).map (·.2)
theorem MapV.lt {w:World} {m:Nat} {es:List (Int × Value)} (h:MapV w m es):m<w.heap.size:=by
 rcases Nat.lt_or_ge m w.heap.size with q | q
 ·exact q
 ·unfold MapV at h; rw [Array.getElem?_eq_none q] at h; cases h
theorem MapV.only {S:Nat→Prop} {w w':World} {m:Nat} {es:List (Int × Value)} (h:MapV w m es) (k:Only S w w') (hs:¬ S m):MapV w' m es:=by
 unfold MapV at h ⊢; rw [k.block m (MapV.lt h) hs]; exact h
theorem MapV.kept {w w':World} {m:Nat} {es:List (Int × Value)} (h:MapV w m es) (k:Kept w w'):MapV w' m es:=h.only (Only.of_kept (S:=fun _=>False) k) (fun q=>q)
theorem MapV.made (w:World):MapV (w.alloc (.map #[] 0)) w.heap.size []:=heap_alloc_new w _
theorem putV_map (w:World) (m:Nat) (es:List (Int × Value)) (hm:m<w.heap.size):MapV (putV w m es) m es:=by
 unfold MapV putV; simp [hm]
theorem putV_only (w:World) (m:Nat) (es:List (Int × Value)):Only (fun i=>i=m) w (putV w m es) :=
 ⟨rfl,rfl,rfl,by simp [putV],fun k hk hs=>by simp [putV,Array.getElem?_setIfInBounds,Ne.symm hs]⟩
theorem entsV_snoc (es:List (Int × Value)) (e:Int × Value):entsV (es ++ [e])=(entsV es).push (entV e es.length):=by
 unfold entsV; rw [List.mapIdx_append]; simp
theorem entsV_list (es:List (Int × Value)):(entsV es).toList=es.mapIdx fun i e=>entV e (i+0):=by simp [entsV]
theorem getV_cons (e:Int × Value) (es:List (Int × Value)) (k:Int):getV (e :: es) k=if e.1=k then some e.2 else getV es k:=by
 unfold getV
 rw [List.find?_cons]
 by_cases h:e.1=k
 ·rw [if_pos h]; simp [h]
 ·rw [if_neg h]
  have:(e.1 == k)=false:=by simpa using h
  rw [this]
theorem findV {kd:IntKind} (k:Int):∀ (l:List (Int × Value)) (i j:Nat),
  (getV l k=none∧Instr.findNow (.int kd) (.int .i64 k) (l.mapIdx fun i' e=>entV e (i'+i)) j=some none) ∨
  (∃ (n:Nat) (v:Value),getV l k=some v∧l[n]? = some (k,v)∧Instr.findNow (.int kd) (.int .i64 k) (l.mapIdx fun i' e=>entV e (i'+i)) j=some (some (n+j,v)))
 | [],_,_=>.inl ⟨rfl,rfl⟩
 | e :: l,i,j=>by
  rw [List.mapIdx_cons,getV_cons]
  unfold Instr.findNow
  by_cases h:e.1=k
  ·right
   refine ⟨0,e.2,by rw [if_pos h],by rw [← h]; rfl,?_⟩
   simp [entV,Instr.sameNow,h]
  ·have hx:(k == e.1)=false:=by rw [beq_eq_false_iff_ne]; exact fun q=>h q.symm
   have hm:(l.mapIdx fun i' x=>entV x (i'+1+i))=l.mapIdx fun i' x=>entV x (i'+(i+1)):=by
    congr 1; funext a b; congr 1; omega
   rw [if_neg h]
   simp only [entV,Instr.sameNow,hx,if_true] at hm ⊢
   rcases findV (kd:=kd) k l (i+1) (j+1) with ⟨g1,g2⟩ | ⟨n,v,g1,g2,g3⟩
   ·left
    simp only [entV] at g2
    rw [hm]
    exact ⟨g1,g2⟩
   ·right
    simp only [entV] at g3
    rw [hm]
    exact ⟨n+1,v,g1,by simpa using g2,by rw [g3]; congr 3; omega⟩
section
variable {P:Program} {tm ti te:TypeId}
theorem check_int (hi:P.underlying ti=some (.int .i64)) (e:Bool) (k:Int) (w:World):(Instr.checkKey e 10000 ti (.int .i64 k)).run P w=.ok () w:=by
 unfold Instr.checkKey
 simp only [Sem.run_bind,run_underlying hi,Result.andThen]
 rfl
theorem runV (hi:P.underlying ti=some (.int .i64)) (w:World) (es:List (Int × Value)) (k:Int) :
  (getV es k=none∧(Instr.findKey ti (.int .i64 k) (entsV es).toList).run P w=.ok none w) ∨
  (∃ n v,getV es k=some v∧es[n]? = some (k,v)∧(Instr.findKey ti (.int .i64 k) (entsV es).toList).run P w=.ok (some (n,v)) w):=by
 rcases findV (kd:=.i64) k es 0 0 with ⟨g1,g2⟩ | ⟨n,v,g1,g2,g3⟩
 ·left
  refine ⟨g1,?_⟩
  unfold Instr.findKey
  simp only [Sem.run_bind,run_underlying hi,Result.andThen,entsV_list,g2]
  simp [Sem.run_pure]
 ·right
  refine ⟨n,v,g1,g2,?_⟩
  unfold Instr.findKey
  simp only [Sem.run_bind,run_underlying hi,Result.andThen,entsV_list,g3]
  simp [Sem.run_pure]
/-- A look-up; z is what the map gives for a key that it has not. -/
theorem lookV (hm:P.underlying tm=some (.map ti te)) (hi:P.underlying ti=some (.int .i64)) (w:World) (m:Nat) (es:List (Int × Value)) (k:Int) (z:Value) (hz:(zeroValue te).run P w=.ok z w) (h:MapV w m es) :
  (Instr.lookup tm (.map (some m)) (.int .i64 k) false).run P w=.ok ((getV es k).getD z) w:=by
 unfold MapV at h
 unfold Instr.lookup
 simp only [Sem.run_bind,run_underlying hm,Result.andThen]
 rcases runV hi w es k with ⟨g1,g2⟩ | ⟨n,v,g1,_,g3⟩
 ·simp only [getObj,Sem.run_bind,Sem.run,h,Result.andThen,Sem.run_pure,check_int hi,g2,g1,hz]
  simp [Sem.run_pure]
 ·simp only [getObj,Sem.run_bind,Sem.run,h,Result.andThen,Sem.run_pure,check_int hi,g3,g1]
  simp [Sem.run_pure]
theorem lookV_ok (hm:P.underlying tm=some (.map ti te)) (hi:P.underlying ti=some (.int .i64)) (w:World) (m:Nat) (es:List (Int × Value)) (k:Int) (z:Value) (hz:(zeroValue te).run P w=.ok z w) (h:MapV w m es) :
  (Instr.lookup tm (.map (some m)) (.int .i64 k) true).run P w=.ok (.tuple #[(getV es k).getD z,.bool (getV es k).isSome]) w:=by
 unfold MapV at h
 unfold Instr.lookup
 simp only [Sem.run_bind,run_underlying hm,Result.andThen]
 rcases runV hi w es k with ⟨g1,g2⟩ | ⟨n,v,g1,_,g3⟩
 ·simp only [getObj,Sem.run_bind,Sem.run,h,Result.andThen,Sem.run_pure,check_int hi,g2,g1,hz]
  simp [Sem.run_pure]
 ·simp only [getObj,Sem.run_bind,Sem.run,h,Result.andThen,Sem.run_pure,check_int hi,g3,g1]
  simp [Sem.run_pure]
theorem insV (hm:P.underlying tm=some (.map ti te)) (hi:P.underlying ti=some (.int .i64)) (w:World) (m:Nat) (es:List (Int × Value)) (k:Int) (v:Value) (h:MapV w m es) (hk:getV es k=none) :
  (Instr.mapUpdate tm (.map (some m)) (.int .i64 k) v).run P w=.ok () (putV w m (es ++ [(k,v)])):=by
 unfold MapV at h
 unfold Instr.mapUpdate
 simp only [Sem.run_bind,run_underlying hm,Result.andThen]
 rcases runV hi w es k with ⟨g1,g2⟩ | ⟨n,v',g1,_,_⟩
 ·simp only [getObj,Sem.run_bind,Sem.run,h,Result.andThen,Sem.run_pure,check_int hi,g2,setObj]
  refine congrArg (Result.ok ()) ?_
  unfold putV
  rw [entsV_snoc]
  simp [entV]
 ·rw [hk] at g1; cases g1
theorem same_int (k:Int) (w:World):(Instr.keyThatStays (.int .i64 k) (.int .i64 k)).run P w=.ok (.int .i64 k) w:=by
 unfold Instr.keyThatStays
 have e:Instr.sameBits 10000 (.int .i64 k) (.int .i64 k)=true:=by
  unfold Instr.sameBits; simp
 rw [e]; rfl
theorem entsV_same (es:List (Int × Value)) (n:Nat) (k:Int) (v:Value) (h:es[n]? = some (k,v)):((entsV es).modify n fun e=>{ e with key:=.int .i64 k,val:=v })=entsV es:=by
 apply Array.ext_getElem?
 intro i
 rw [Array.getElem?_modify]
 by_cases q:n=i
 ·subst q
  rw [if_pos rfl]
  unfold entsV
  simp [h,entV]
 ·rw [if_neg q]
theorem entsV_key (es:List (Int × Value)) (n:Nat) (k:Int) (v:Value) (h:es[n]? = some (k,v)):(entsV es)[n]? = some (entV (k,v) n):=by
 unfold entsV
 simp [h]
/-- A key is put again with what it had. -/
theorem againV (hm:P.underlying tm=some (.map ti te)) (hi:P.underlying ti=some (.int .i64)) (w:World) (m:Nat) (es:List (Int × Value)) (k:Int) (v:Value) (h:MapV w m es) (hk:getV es k=some v) :
  (Instr.mapUpdate tm (.map (some m)) (.int .i64 k) v).run P w=.ok () (putV w m es):=by
 unfold MapV at h
 unfold Instr.mapUpdate
 simp only [Sem.run_bind,run_underlying hm,Result.andThen]
 rcases runV hi w es k with ⟨g1,_⟩ | ⟨n,v',g1,g2,g3⟩
 ·rw [hk] at g1; cases g1
 ·rw [hk] at g1
  cases g1
  have e1:=entsV_key es n k v g2
  simp only [getObj,Sem.run_bind,Sem.run,h,Result.andThen,Sem.run_pure,check_int hi,g3,setObj,e1,Option.map_some,Option.getD_some,entV,same_int]
  refine congrArg (Result.ok ()) ?_
  unfold putV
  have e2:=entsV_same es n k v g2
  first | rw [e2] | (trace_state; rfl)
end
end Go.Proofs.YtmcoomlkbgiboaaGreatDoor

/- A set of texts that a call makes in memory: insertion and look-up. No condition. -/
set_option linter.all false
namespace Go.Proofs.YtmcoomlkbgiboaaGreatDoor
open Go.RowKit

def entK (k:Bs) (i:Nat):MapEntry:={ key:=.string (bs k),val:=.bool true,born:=i }
def entsK (ks:List Bs):Array MapEntry:=(ks.mapIdx fun i k=>entK k i).toArray
/-- Block m is the map of the keys ks. -/
def MapK (w:World) (m:Nat) (ks:List Bs):Prop:=w.heap[m]? = some (.map (entsK ks) ks.length)
/-- The world with another map of keys in block m. -/
def putK (w:World) (m:Nat) (ks:List Bs):World:={ w with heap:=w.heap.setIfInBounds m (.map (entsK ks) ks.length) }
theorem MapK.lt {w:World} {m:Nat} {ks:List Bs} (h:MapK w m ks):m<w.heap.size:=by
 rcases Nat.lt_or_ge m w.heap.size with q | q
 ·exact q
 ·unfold MapK at h; rw [Array.getElem?_eq_none q] at h; cases h
theorem MapK.only {S:Nat→Prop} {w w':World} {m:Nat} {ks:List Bs} (h:MapK w m ks) (k:Only S w w') (hs:¬ S m):MapK w' m ks:=by
 unfold MapK at h ⊢; rw [k.block m (MapK.lt h) hs]; exact h
theorem putK_map (w:World) (m:Nat) (ks:List Bs) (hm:m<w.heap.size):MapK (putK w m ks) m ks:=by
 unfold MapK putK; simp [hm]
theorem putK_only (w:World) (m:Nat) (ks:List Bs):Only (fun i=>i=m) w (putK w m ks) :=
 ⟨rfl,rfl,rfl,by simp [putK],fun k hk hs=>by simp [putK,Array.getElem?_setIfInBounds,Ne.symm hs]⟩
theorem entsK_snoc (ks:List Bs) (k:Bs):entsK (ks ++ [k])=(entsK ks).push (entK k ks.length):=by
 unfold entsK; rw [List.mapIdx_append]; simp
theorem findK_none (k:Bs):∀ (l:List Bs) (i j:Nat),k ∉ l→Instr.findNow .string (.string (bs k)) (l.mapIdx fun i' x=>entK x (i'+i)) j=some none
 | [],_,_,_=>rfl
 | x :: l,i,j,h=>by
  have hx:(bs k == bs x)=false:=by rw [bs_beq,beq_eq_false_iff_ne]; exact fun e=>h (by simp [e])
  rw [List.mapIdx_cons]
  unfold Instr.findNow
  simp only [entK,Instr.sameNow,hx]
  have:=findK_none k l (i+1) (j+1) (fun e=>h (by simp [e]))
  simp only [entK] at this
  rw [← this]
  congr 1
  apply List.ext_getElem?
  intro m
  simp [List.getElem?_mapIdx]
  cases l[m]? <;> simp; omega
theorem findK_some (k:Bs):∀ (l:List Bs) (i j:Nat),k∈l→∃ m,Instr.findNow .string (.string (bs k)) (l.mapIdx fun i' x=>entK x (i'+i)) j=some (some (m,.bool true))
 | [],_,_,h=>by cases h
 | x :: l,i,j,h=>by
  rw [List.mapIdx_cons]
  unfold Instr.findNow
  by_cases q:x=k
  ·have hx:(bs k == bs x)=true:=by rw [bs_beq,beq_iff_eq]; exact q.symm
   simp only [entK,Instr.sameNow,hx]
   exact ⟨_,rfl⟩
  ·have hx:(bs k == bs x)=false:=by rw [bs_beq,beq_eq_false_iff_ne]; exact fun e=>q e.symm
   have hl:k∈l:=by rcases List.mem_cons.1 h with e | e; exact absurd e.symm q; exact e
   simp only [entK,Instr.sameNow,hx]
   obtain ⟨m,hm⟩:=findK_some k l (i+1) (j+1) hl
   refine ⟨m,?_⟩
   simp only [entK] at hm
   rw [← hm]
   congr 1
   apply List.ext_getElem?
   intro m
   simp [List.getElem?_mapIdx]
   cases l[m]? <;> simp; omega
theorem entsK_list (l:List Bs):(entsK l).toList=l.mapIdx fun i' x=>entK x (i'+0):=by simp [entsK]
theorem runK_none (w:World) (l:List Bs) (k:Bs) (hk:k ∉ l):(Instr.findKey 9 (.string (bs k)) (entsK l).toList).run Tryz.prog w=.ok none w:=by
 unfold Instr.findKey
 simp only [Sem.run_bind,run_underlying Tryz.underlying9,Result.andThen,entsK_list,findK_none k l 0 0 hk]
 simp [Sem.run_pure]
theorem runK_some (w:World) (l:List Bs) (k:Bs) (hk:k∈l):∃ m,(Instr.findKey 9 (.string (bs k)) (entsK l).toList).run Tryz.prog w=.ok (some (m,.bool true)) w:=by
 obtain ⟨m,hm⟩:=findK_some k l 0 0 hk
 refine ⟨m,?_⟩
 unfold Instr.findKey
 simp only [Sem.run_bind,run_underlying Tryz.underlying9,Result.andThen,entsK_list,hm]
 simp [Sem.run_pure]
theorem MapK_kept {w w':World} {m:Nat} {ks:List Bs} (h:MapK w m ks) (k:Kept w w'):MapK w' m ks:=h.only (Only.of_kept (S:=fun _=>False) k) (fun q=>q)
theorem MapK_made (w:World):MapK (w.alloc (.map #[] 0)) w.heap.size []:=heap_alloc_new w _
theorem zero_bool (w:World):(zeroValue 4).run Tryz.prog w=.ok (.bool false) w:=by kernel_rfl
theorem lookK (w:World) (m:Nat) (ks:List Bs) (k:Bs) (h:MapK w m ks):(Instr.lookup 73 (.map (some m)) (.string (bs k)) false).run Tryz.prog w=.ok (.bool (ks.contains k)) w:=by
 have hu:Tryz.prog.underlying 73=some (.map 9 4):=Tryz.underlying73
 unfold MapK at h
 unfold Instr.lookup
 simp only [Sem.run_bind,run_underlying hu,Result.andThen]
 by_cases hk:k∈ks
 ·obtain ⟨j,hf⟩:=runK_some w ks k hk
  have hc:ks.contains k=true:=by simpa using hk
  simp only [getObj,Sem.run_bind,Sem.run,h,Result.andThen,Sem.run_pure,run_check,hf,hc]
  simp [Sem.run_pure]
 ·have hf:=runK_none w ks k hk
  have hc:ks.contains k=false:=by simpa using hk
  simp only [getObj,Sem.run_bind,Sem.run,h,Result.andThen,Sem.run_pure,run_check,hf,hc,zero_bool]
  simp [Sem.run_pure]
theorem insK (w:World) (m:Nat) (ks:List Bs) (k:Bs) (h:MapK w m ks) (hk:k ∉ ks):(Instr.mapUpdate 73 (.map (some m)) (.string (bs k)) (.bool true)).run Tryz.prog w=.ok () (putK w m (ks ++ [k])):=by
 have hu:Tryz.prog.underlying 73=some (.map 9 4):=Tryz.underlying73
 unfold MapK at h
 unfold Instr.mapUpdate
 simp only [Sem.run_bind,run_underlying hu,Result.andThen]
 simp only [getObj,Sem.run_bind,Sem.run,h,Result.andThen,Sem.run_pure,run_check,runK_none _ ks k hk,setObj]
 refine congrArg (Result.ok ()) ?_
 unfold putK
 rw [entsK_snoc]
 simp [entK]
theorem MapK.kept {w w':World} {m:Nat} {ks:List Bs} (h:MapK w m ks) (k:Kept w w'):MapK w' m ks:=h.only (Only.of_kept (S:=fun _=>False) k) (fun q=>q)
end Go.Proofs.YtmcoomlkbgiboaaGreatDoor

/- (*reader).begin of package bib. Conditions: lengths. -/
set_option linter.all false
namespace Go.Proofs.YtmcoomlkbgiboaaGreatDoor
open Go.RowKit

def zeroS:SrcT:=⟨[],[],[],[],[]⟩
end Go.Proofs.YtmcoomlkbgiboaaGreatDoor

/- (*reader).line of package bib: the end of a source. Conditions: lengths. -/
set_option linter.all false
namespace Go.Proofs.YtmcoomlkbgiboaaGreatDoor
open Go.RowKit

def bTitle:Bs:=[116,105,116,108,101]
end Go.Proofs.YtmcoomlkbgiboaaGreatDoor
