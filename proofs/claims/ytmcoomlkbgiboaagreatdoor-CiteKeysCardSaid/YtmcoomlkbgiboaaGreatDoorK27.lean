/- The text of a style and what a text says of one, in plain Lean. No condition. -/
import Derived.Test.YtmcoomlkbgiboaaGreatDoorK26
import Derived.Test.YtmcoomlkbgiboaaGreatDoorK23
import Derived.Test.YtmcoomlkbgiboaaGreatDoorK09
import Derived.Test.YtmcoomlkbgiboaaGreatDoorK17
import Derived.Test.YtmcoomlkbgiboaaGreatDoorK02
import Derived.Test.YtmcoomlkbgiboaaGreatDoorK01
import Derived.Test.YtmcoomlkbgiboaaGreatDoorK15
import Derived.Lib.ItoaNum
import Derived.Lib.LaidTab
import Derived.Shelf.Strconv.Itoa3
import Derived.Lib.AppendIntMem

set_option linter.all false
namespace Go.Proofs.YtmcoomlkbgiboaaGreatDoor
open Go.RowKit

theorem decDigits_ten (n:Nat) (h:¬ n<10):Lib.decDigits n=Lib.decDigits (n / 10) ++ [UInt8.ofNat (48+n % 10)]:=by
 rw [Lib.decDigits,dif_neg h]
end Go.Proofs.YtmcoomlkbgiboaaGreatDoor

/- What a template is filled with, in plain Lean. No condition. -/
set_option linter.all false
namespace Go.Proofs.YtmcoomlkbgiboaaGreatDoor
open Go.RowKit

def kEditor:Bs:=[101,100,105,116,111,114]
def kAuthors:Bs:=[97,117,116,104,111,114,115]
def kEditors:Bs:=[101,100,105,116,111,114,115]
def kType:Bs:=[116,121,112,101]
/-- A source, and what else a template is filled with. -/
structure FilT where
 key:Bs
 type:Bs
 author:List P4
 editor:List P4
 fields:List Pr
 lang:Bs
 suffix:Bs
 number:Int
 most:Int
def yearN (c:FilT):Int:=yearL ((fieldL c.fields [121,101,97,114]).getD [])
def yearS (c:FilT):Bs:=if yearN c=0 then [] else Lib.itoa (yearN c)
def numS (c:FilT):Bs:=if c.number<1 then [] else Lib.itoa c.number
def specL (c:FilT):List (Bs × Bs):=[(kAuthor,plistL c.author c.lang c.most false),(kEditor,plistL c.editor c.lang c.most false),(kAuthors,plistL c.author c.lang c.most true),(kEditors,plistL c.editor c.lang c.most true),(kYear,yearS c),(kSuffix,c.suffix),(kNumber,numS c),(kKey,c.key),(kType,c.type)]
/-- The entries with the year and the number. -/
def specOf (l:List (Bs × Bs)) (ys ns:Bs):List (Bs × Bs):=l.map fun e=>if e.1=kYear then (kYear,ys) else if e.1=kNumber then (kNumber,ns) else e
/-- The value of a field. -/
def valS (c:FilT) (k:Bs):Bs:=((specL c).find? fun e=>e.1 == k).elim ((fieldL c.fields k).getD []) (·.2)
/-- Bounds of what a template is filled with. -/
def FitF (c:FilT):Prop:=c.author.length≤900∧c.editor.length≤900∧(∀ q∈c.author,size4 q≤10000)∧(∀ q∈c.editor,size4 q≤10000)∧(-9223372036854775808≤c.most∧c.most≤9223372036854775807)∧c.fields.length≤1100000∧((fieldL c.fields [121,101,97,114]).getD []).length≤140737488355328∧(-9223372036854775808≤c.number∧c.number≤9223372036854775807)
end Go.Proofs.YtmcoomlkbgiboaaGreatDoor

/- strconv.Itoa at any number. Condition: the table of tens. -/
set_option linter.all false
namespace Go.Proofs.YtmcoomlkbgiboaaGreatDoor
open Go.RowKit

theorem itoa_any (n:Int) (w:World) (h0 : -9223372036854775808≤n) (h1:n≤9223372036854775807) (h:Lib.TabIs Tryz.prog w "internal/strconv.uint64pow10" .u64 Lib.pow10Tab):Calls Tryz.prog 89 #[.int .i64 n] w fun e w'=>e=.returned (.string (bs (Lib.itoa n)))∧Kept w w':=by
 refine (Tryz.strconv_Itoa n h0 h1 w h).mono ?_
 rintro e w' ⟨rfl,k,os,rfl⟩
 exact ⟨rfl,Lib.below_grow w.heap.size w (Nat.le_refl _) k os⟩
theorem tab_kept {w w':World} (h:Lib.TabIs Tryz.prog w "internal/strconv.uint64pow10" .u64 Lib.pow10Tab) (k:Kept w w'):Lib.TabIs Tryz.prog w' "internal/strconv.uint64pow10" .u64 Lib.pow10Tab:=Lib.tabBelow_of_tabIs h w' k
end Go.Proofs.YtmcoomlkbgiboaaGreatDoor

/- Maps in memory whose keys are texts: look-up, a key that is new, a key that is put again. No condition. -/
set_option linter.all false
namespace Go.Proofs.YtmcoomlkbgiboaaGreatDoor
open Go.RowKit

def entT (e:Bs × Value) (i:Nat):MapEntry:={ key:=.string (bs e.1),val:=e.2,born:=i }
def entsT (es:List (Bs × Value)):Array MapEntry:=(es.mapIdx fun i e=>entT e i).toArray
/-- Block m is the map of the entries es. -/
def MapT (w:World) (m:Nat) (es:List (Bs × Value)):Prop:=w.heap[m]? = some (.map (entsT es) es.length)
/-- The world with other entries in block m. -/
def putT (w:World) (m:Nat) (es:List (Bs × Value)):World:={ w with heap:=w.heap.setIfInBounds m (.map (entsT es) es.length) }
def getT (es:List (Bs × Value)) (k:Bs):Option Value:=(es.find? fun e=>e.1 == k).map (·.2)
theorem MapT.lt {w:World} {m:Nat} {es:List (Bs × Value)} (h:MapT w m es):m<w.heap.size:=by
 rcases Nat.lt_or_ge m w.heap.size with q | q
 ·exact q
 ·unfold MapT at h; rw [Array.getElem?_eq_none q] at h; cases h
theorem MapT.only {S:Nat→Prop} {w w':World} {m:Nat} {es:List (Bs × Value)} (h:MapT w m es) (k:Only S w w') (hs:¬ S m):MapT w' m es:=by
 unfold MapT at h ⊢; rw [k.block m (MapT.lt h) hs]; exact h
theorem MapT.kept {w w':World} {m:Nat} {es:List (Bs × Value)} (h:MapT w m es) (k:Kept w w'):MapT w' m es:=h.only (Only.of_kept (S:=fun _=>False) k) (fun q=>q)
theorem MapT.made (w:World):MapT (w.alloc (.map #[] 0)) w.heap.size []:=heap_alloc_new w _
theorem putT_map (w:World) (m:Nat) (es:List (Bs × Value)) (hm:m<w.heap.size):MapT (putT w m es) m es:=by
 unfold MapT putT; simp [hm]
theorem putT_only (w:World) (m:Nat) (es:List (Bs × Value)):Only (fun i=>i=m) w (putT w m es) :=
 ⟨rfl,rfl,rfl,by simp [putT],fun k hk hs=>by simp [putT,Array.getElem?_setIfInBounds,Ne.symm hs]⟩
theorem entsT_snoc (es:List (Bs × Value)) (e:Bs × Value):entsT (es ++ [e])=(entsT es).push (entT e es.length):=by
 unfold entsT; rw [List.mapIdx_append]; simp
theorem entsT_list (es:List (Bs × Value)):(entsT es).toList=es.mapIdx fun i e=>entT e (i+0):=by simp [entsT]
theorem getT_cons (e:Bs × Value) (es:List (Bs × Value)) (k:Bs):getT (e :: es) k=if e.1=k then some e.2 else getT es k:=by
 unfold getT
 rw [List.find?_cons]
 by_cases h:e.1=k
 ·rw [if_pos h]; simp [h]
 ·rw [if_neg h]
  have:(e.1 == k)=false:=by simpa using h
  rw [this]
theorem findT (k:Bs):∀ (l:List (Bs × Value)) (i j:Nat),
  (getT l k=none∧Instr.findNow .string (.string (bs k)) (l.mapIdx fun i' e=>entT e (i'+i)) j=some none) ∨
  (∃ (n:Nat) (v:Value),getT l k=some v∧l[n]? = some (k,v)∧Instr.findNow .string (.string (bs k)) (l.mapIdx fun i' e=>entT e (i'+i)) j=some (some (n+j,v))∧∀ u k',getT (l.set n (k,u)) k'=if k'=k then some u else getT l k')
 | [],_,_=>.inl ⟨rfl,rfl⟩
 | e :: l,i,j=>by
  rw [List.mapIdx_cons,getT_cons]
  unfold Instr.findNow
  by_cases h:e.1=k
  ·right
   have hx:(bs k == bs e.1)=true:=by rw [bs_beq,beq_iff_eq]; exact h.symm
   refine ⟨0,e.2,by rw [if_pos h],by rw [← h]; rfl,?_,fun u k'=>?_⟩
   ·simp [entT,Instr.sameNow,hx]
   ·rw [List.set_cons_zero,getT_cons,getT_cons]
    by_cases q:k'=k
    ·rw [if_pos q,if_pos q.symm]
    ·rw [if_neg q,if_neg (fun e=>q e.symm),if_neg (fun e'=>q (by rw [← e',h]))]
  ·have hx:(bs k == bs e.1)=false:=by rw [bs_beq,beq_eq_false_iff_ne]; exact fun q=>h q.symm
   have hm:(l.mapIdx fun i' x=>entT x (i'+1+i))=l.mapIdx fun i' x=>entT x (i'+(i+1)):=by
    congr 1; funext a b; congr 1; omega
   rw [if_neg h]
   simp only [entT,Instr.sameNow,hx] at hm ⊢
   rcases findT k l (i+1) (j+1) with ⟨g1,g2⟩ | ⟨n,v,g1,g2,g3,g4⟩
   ·left
    simp only [entT] at g2
    rw [hm]
    exact ⟨g1,g2⟩
   ·right
    simp only [entT] at g3
    rw [hm]
    refine ⟨n+1,v,g1,by simpa using g2,by rw [g3]; congr 3; omega,fun u k'=>?_⟩
    rw [List.set_cons_succ,getT_cons,getT_cons,g4]
    by_cases q:e.1=k'
    ·rw [if_pos q,if_pos q,if_neg (fun e'=>h (by rw [q,e']))]
    ·rw [if_neg q,if_neg q]
theorem getT_snoc {es:List (Bs × Value)} {k:Bs} (h:getT es k=none) (v:Value) (k':Bs):getT (es ++ [(k,v)]) k'=if k'=k then some v else getT es k':=by
 induction es with
 | nil =>
  rw [List.nil_append,getT_cons]
  by_cases q:k'=k
  ·rw [if_pos q,if_pos q.symm]
  ·rw [if_neg q,if_neg (fun e=>q e.symm)]
 | cons e es ih =>
  rw [getT_cons] at h
  by_cases q:e.1=k
  ·rw [if_pos q] at h; cases h
  ·rw [if_neg q] at h
   rw [List.cons_append,getT_cons,getT_cons,ih h]
   by_cases q2:e.1=k'
   ·rw [if_pos q2,if_pos q2,if_neg (fun e'=>q (by rw [q2,e']))]
   ·rw [if_neg q2,if_neg q2]
section
variable {P:Program} {tm ti te:TypeId}
theorem check_str (hi:P.underlying ti=some .string) (e:Bool) (s:ByteArray) (w:World):(Instr.checkKey e 10000 ti (.string s)).run P w=.ok () w:=by
 show (Instr.checkKey e (9999+1) ti (.string s)).run P w=.ok () w
 rw [Instr.checkKey]
 simp only [Sem.run_bind,run_underlying hi,Result.andThen]
 simp [Sem.run_pure]
theorem runT (hi:P.underlying ti=some .string) (w:World) (es:List (Bs × Value)) (k:Bs) :
  (getT es k=none∧(Instr.findKey ti (.string (bs k)) (entsT es).toList).run P w=.ok none w) ∨
  (∃ n v,getT es k=some v∧es[n]? = some (k,v)∧(Instr.findKey ti (.string (bs k)) (entsT es).toList).run P w=.ok (some (n,v)) w∧∀ u k',getT (es.set n (k,u)) k'=if k'=k then some u else getT es k'):=by
 rcases findT k es 0 0 with ⟨g1,g2⟩ | ⟨n,v,g1,g2,g3,g4⟩
 ·left
  refine ⟨g1,?_⟩
  unfold Instr.findKey
  simp only [Sem.run_bind,run_underlying hi,Result.andThen,entsT_list,g2]
  simp [Sem.run_pure]
 ·right
  refine ⟨n,v,g1,g2,?_,g4⟩
  unfold Instr.findKey
  simp only [Sem.run_bind,run_underlying hi,Result.andThen,entsT_list,g3]
  simp [Sem.run_pure]
theorem lookT_ok (hm:P.underlying tm=some (.map ti te)) (hi:P.underlying ti=some .string) (w:World) (m:Nat) (es:List (Bs × Value)) (k:Bs) (z:Value) (hz:(zeroValue te).run P w=.ok z w) (h:MapT w m es) :
  (Instr.lookup tm (.map (some m)) (.string (bs k)) true).run P w=.ok (.tuple #[(getT es k).getD z,.bool (getT es k).isSome]) w:=by
 unfold MapT at h
 unfold Instr.lookup
 simp only [Sem.run_bind,run_underlying hm,Result.andThen]
 rcases runT hi w es k with ⟨g1,g2⟩ | ⟨n,v,g1,_,g3,_⟩
 ·simp only [getObj,Sem.run_bind,Sem.run,h,Result.andThen,Sem.run_pure,check_str hi,g2,g1,hz]
  simp [Sem.run_pure]
 ·simp only [getObj,Sem.run_bind,Sem.run,h,Result.andThen,Sem.run_pure,check_str hi,g3,g1]
  simp [Sem.run_pure]
theorem insT (hm:P.underlying tm=some (.map ti te)) (hi:P.underlying ti=some .string) (w:World) (m:Nat) (es:List (Bs × Value)) (k:Bs) (v:Value) (h:MapT w m es) (hk:getT es k=none) :
  (Instr.mapUpdate tm (.map (some m)) (.string (bs k)) v).run P w=.ok () (putT w m (es ++ [(k,v)])):=by
 unfold MapT at h
 unfold Instr.mapUpdate
 simp only [Sem.run_bind,run_underlying hm,Result.andThen]
 rcases runT hi w es k with ⟨g1,g2⟩ | ⟨n,v',g1,_,_,_⟩
 ·simp only [getObj,Sem.run_bind,Sem.run,h,Result.andThen,Sem.run_pure,check_str hi,g2,setObj]
  refine congrArg (Result.ok ()) ?_
  unfold putT
  rw [entsT_snoc]
  simp [entT]
 ·rw [hk] at g1; cases g1
theorem same_str (k:ByteArray) (w:World):(Instr.keyThatStays (.string k) (.string k)).run P w=.ok (.string k) w:=by
 unfold Instr.keyThatStays
 have e:Instr.sameBits 10000 (.string k) (.string k)=true:=by
  show (k == k)=true
  show (k.data == k.data)=true
  exact beq_self_eq_true _
 rw [e]; rfl
/-- A key that is there is put again, with another value: at its place. -/
theorem overT (hm:P.underlying tm=some (.map ti te)) (hi:P.underlying ti=some .string) (w:World) (m:Nat) (es:List (Bs × Value)) (k:Bs) (v v0:Value) (h:MapT w m es) (hk:getT es k=some v0) :
  ∃ es',(∀ k',getT es' k'=if k'=k then some v else getT es k')∧(Instr.mapUpdate tm (.map (some m)) (.string (bs k)) v).run P w=.ok () (putT w m es'):=by
 unfold MapT at h
 rcases runT hi w es k with ⟨g1,_⟩ | ⟨n,v',g1,g2,g3,g4⟩
 ·rw [hk] at g1; cases g1
 ·rw [hk] at g1
  cases g1
  refine ⟨es.set n (k,v),g4 v,?_⟩
  unfold Instr.mapUpdate
  simp only [Sem.run_bind,run_underlying hm,Result.andThen]
  have e1:(entsT es)[n]? = some (entT (k,v0) n):=by unfold entsT; simp [g2]
  simp only [getObj,Sem.run_bind,Sem.run,h,Result.andThen,Sem.run_pure,check_str hi,g3,setObj,e1,Option.map_some,Option.getD_some,entT,same_str]
  refine congrArg (Result.ok ()) ?_
  unfold putT
  have e2:((entsT es).modify n fun e=>{ e with key:=.string (bs k),val:=v })=entsT (es.set n (k,v)):=by
   apply Array.ext_getElem?
   intro i
   rw [Array.getElem?_modify]
   by_cases q:n=i
   ·subst q
    rw [if_pos rfl,e1]
    unfold entsT
    have hn:=(List.getElem?_eq_some_iff.1 g2).1
    simp [entT,hn]
   ·rw [if_neg q]
    unfold entsT
    simp [List.getElem?_set,q]
  have e3:(es.set n (k,v)).length=es.length:=by simp
  rw [e3]
  first | rw [e2] | (trace_state; rfl)
end
end Go.Proofs.YtmcoomlkbgiboaaGreatDoor
