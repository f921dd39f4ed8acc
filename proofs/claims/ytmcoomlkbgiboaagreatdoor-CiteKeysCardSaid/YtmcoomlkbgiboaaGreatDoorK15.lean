/- A map of words that a literal builds: insertion and look-up. No condition. -/
import Derived.Test.YtmcoomlkbgiboaaGreatDoorK02
import Derived.Deep.RegionWith

set_option linter.all false
namespace Go.Proofs.YtmcoomlkbgiboaaGreatDoor
open Go.RowKit

/-- A word: its key, its singular, its plural. -/
abbrev Word:=Bs × Bs × Bs
def entOf (x:Word) (i:Nat):MapEntry:={ key:=.string (bs x.1),val:=.agg #[.string (bs x.2.1),.string (bs x.2.2)],born:=i }
def entsOf (l:List Word):Array MapEntry:=(l.mapIdx fun i x=>entOf x i).toArray
/-- The world with a new map of words. -/
def mapW (w:World) (l:List Word):World:=w.alloc (.map (entsOf l) l.length)
theorem mapW_heap (w:World) (l:List Word):(mapW w l).heap[w.heap.size]? = some (.map (entsOf l) l.length):=by
 unfold mapW; exact heap_alloc_new w _
theorem entsOf_snoc (l:List Word) (x:Word):entsOf (l ++ [x])=(entsOf l).push (entOf x l.length):=by
 unfold entsOf; rw [List.mapIdx_append]; simp
theorem bs_beq (a b:Bs):(bs a == bs b)=(a == b):=by
 show ((bs a).data == (bs b).data)=_
 rw [Bool.eq_iff_iff,beq_iff_eq,beq_iff_eq]
 exact ⟨fun h=>by have:=congrArg Array.toList h; exact this,fun h=>by rw [h]⟩
theorem findNow_none (k:Bs):∀ (l:List Word) (i j:Nat),(∀ x∈l,x.1≠k)→Instr.findNow .string (.string (bs k)) (l.mapIdx fun i' x=>entOf x (i'+i)) j=some none
 | [],_,_,_=>rfl
 | x :: l,i,j,h=>by
  have hx:(bs k == bs x.1)=false:=by rw [bs_beq,beq_eq_false_iff_ne]; exact fun e=>h x (by simp) e.symm
  rw [List.mapIdx_cons]
  unfold Instr.findNow
  simp only [entOf,Instr.sameNow,hx]
  have:=findNow_none k l (i+1) (j+1) (fun y hy=>h y (by simp [hy]))
  simp only [entOf] at this
  rw [← this]
  congr 1
  apply List.ext_getElem?
  intro m
  simp [List.getElem?_mapIdx]
  cases l[m]? <;> simp; omega
theorem findNow_some (k a b:Bs):∀ (l:List Word) (i j:Nat),l.find? (fun x=>x.1 == k)=some (k,a,b)→∃ m,Instr.findNow .string (.string (bs k)) (l.mapIdx fun i' x=>entOf x (i'+i)) j=some (some (m,.agg #[.string (bs a),.string (bs b)]))
 | [],_,_,h=>by cases h
 | x :: l,i,j,h=>by
  rw [List.mapIdx_cons]
  unfold Instr.findNow
  by_cases q:x.1=k
  ·have hx:(bs k == bs x.1)=true:=by rw [bs_beq,beq_iff_eq]; exact q.symm
   rw [List.find?_cons_of_pos (by simpa using q)] at h
   cases h
   simp only [entOf,Instr.sameNow,hx]
   exact ⟨_,rfl⟩
  ·have hx:(bs k == bs x.1)=false:=by rw [bs_beq,beq_eq_false_iff_ne]; exact fun e=>q e.symm
   rw [List.find?_cons_of_neg (by simpa using q)] at h
   simp only [entOf,Instr.sameNow,hx]
   obtain ⟨m,hm⟩:=findNow_some k a b l (i+1) (j+1) h
   refine ⟨m,?_⟩
   simp only [entOf] at hm
   rw [← hm]
   congr 1
   apply List.ext_getElem?
   intro m
   simp [List.getElem?_mapIdx]
   cases l[m]? <;> simp; omega
theorem entsOf_list (l:List Word):(entsOf l).toList=l.mapIdx fun i' x=>entOf x (i'+0):=by simp [entsOf]
theorem run_make (w:World):(Instr.makeMap 256 none).run Tryz.prog w=.ok (.map (some w.heap.size)) (mapW w []):=by
 rw [run_makeMap]; rfl
theorem run_check (e:Bool) (s:ByteArray) (w:World):(Instr.checkKey e 10000 9 (.string s)).run Tryz.prog w=.ok () w:=by
 show (Instr.checkKey e (9999+1) 9 (.string s)).run Tryz.prog w=.ok () w
 rw [Instr.checkKey]
 simp only [Sem.run_bind,run_underlying Tryz.underlying9,Result.andThen]
 simp [Sem.run_pure]
theorem run_find_none (w:World) (l:List Word) (k:Bs) (hk:∀ x∈l,x.1≠k):(Instr.findKey 9 (.string (bs k)) (entsOf l).toList).run Tryz.prog w=.ok none w:=by
 unfold Instr.findKey
 simp only [Sem.run_bind,run_underlying Tryz.underlying9,Result.andThen,entsOf_list,findNow_none k l 0 0 hk]
 simp [Sem.run_pure]
theorem run_find_some (w:World) (l:List Word) (k a b:Bs) (hk:l.find? (fun x=>x.1 == k)=some (k,a,b)):∃ m,(Instr.findKey 9 (.string (bs k)) (entsOf l).toList).run Tryz.prog w=.ok (some (m,.agg #[.string (bs a),.string (bs b)])) w:=by
 obtain ⟨m,hm⟩:=findNow_some k a b l 0 0 hk
 refine ⟨m,?_⟩
 unfold Instr.findKey
 simp only [Sem.run_bind,run_underlying Tryz.underlying9,Result.andThen,entsOf_list,hm]
 simp [Sem.run_pure]
theorem mapW_set (w:World) (l:List Word) (x:Word):{ mapW w l with heap:=(mapW w l).heap.setIfInBounds w.heap.size (.map ((entsOf l).push (entOf x l.length)) (l.length+1)) }=mapW w (l ++ [x]):=by
 unfold mapW
 rw [entsOf_snoc]
 simp only [World.alloc,List.length_append,List.length_cons,List.length_nil]
 congr 1
 apply Array.ext'
 simp [Array.setIfInBounds,Array.toList_push]
theorem run_ins (w:World) (l:List Word) (k a b:Bs) (hk:∀ x∈l,x.1≠k) :
  (Instr.mapUpdate 256 (.map (some w.heap.size)) (.string (bs k)) (.agg #[.string (bs a),.string (bs b)])).run Tryz.prog (mapW w l)=.ok () (mapW w (l ++ [(k,a,b)])):=by
 have hu:Tryz.prog.underlying 256=some (.map 9 254):=Tryz.underlying256
 unfold Instr.mapUpdate
 simp only [Sem.run_bind,run_underlying hu,Result.andThen]
 simp only [getObj,Sem.run_bind,Sem.run,mapW_heap,Result.andThen,Sem.run_pure,run_check,run_find_none _ l k hk,setObj]
 exact congrArg (Result.ok ()) (mapW_set w l (k,a,b))
/-- The look-up of a word in a map that some later world still holds. -/
theorem run_look (w:World) (r:Nat) (l:List Word) (k a b:Bs) (hm:w.heap[r]? = some (.map (entsOf l) l.length)) (hk:l.find? (fun x=>x.1 == k)=some (k,a,b)) :
  (Instr.lookup 256 (.map (some r)) (.string (bs k)) true).run Tryz.prog w=.ok (.tuple #[.agg #[.string (bs a),.string (bs b)],.bool true]) w:=by
 have hu:Tryz.prog.underlying 256=some (.map 9 254):=Tryz.underlying256
 obtain ⟨m,hf⟩:=run_find_some w l k a b hk
 unfold Instr.lookup
 simp only [Sem.run_bind,run_underlying hu,Result.andThen]
 simp only [getObj,Sem.run_bind,Sem.run,hm,Result.andThen,Sem.run_pure,run_check,hf]
 simp [Sem.run_pure]
end Go.Proofs.YtmcoomlkbgiboaaGreatDoor

/- The words of each language, and that package locale lays them. No condition. -/
set_option linter.all false
namespace Go.Proofs.YtmcoomlkbgiboaaGreatDoor
open Go.RowKit

def words_en:List Word:=[([115,101,99,116,105,111,110],[83,101,99,116,105,111,110],[83,101,99,116,105,111,110,115]),([102,105,103,117,114,101],[70,105,103,117,114,101],[70,105,103,117,114,101,115]),([116,97,98,108,101],[84,97,98,108,101],[84,97,98,108,101,115]),([101,113,117,97,116,105,111,110],[69,113,117,97,116,105,111,110],[69,113,117,97,116,105,111,110,115]),([112,97,103,101],[80,97,103,101],[80,97,103,101,115]),([97,110,100],[97,110,100],[97,110,100]),([111,116,104,101,114,115],[111,116,104,101,114,115],[111,116,104,101,114,115]),([101,100,105,116,101,100],[101,100,105,116,101,100,32,98,121],[101,100,105,116,101,100,32,98,121]),([99,111,110,116,101,110,116,115],[67,111,110,116,101,110,116,115],[67,111,110,116,101,110,116,115]),([105,110,100,101,120],[73,110,100,101,120],[73,110,100,101,120,101,115]),([114,101,102,101,114,101,110,99,101,115],[82,101,102,101,114,101,110,99,101,115],[82,101,102,101,114,101,110,99,101,115]),([103,108,111,115,115,97,114,121],[71,108,111,115,115,97,114,121],[71,108,111,115,115,97,114,105,101,115]),([110,111,116,101],[78,111,116,101],[78,111,116,101,115]),([99,104,97,112,116,101,114],[67,104,97,112,116,101,114],[67,104,97,112,116,101,114,115])]
def words_de:List Word:=[([115,101,99,116,105,111,110],[65,98,115,99,104,110,105,116,116],[65,98,115,99,104,110,105,116,116,101]),([102,105,103,117,114,101],[65,98,98,105,108,100,117,110,103],[65,98,98,105,108,100,117,110,103,101,110]),([116,97,98,108,101],[84,97,98,101,108,108,101],[84,97,98,101,108,108,101,110]),([101,113,117,97,116,105,111,110],[71,108,101,105,99,104,117,110,103],[71,108,101,105,99,104,117,110,103,101,110]),([112,97,103,101],[83,101,105,116,101],[83,101,105,116,101,110]),([97,110,100],[117,110,100],[117,110,100]),([111,116,104,101,114,115],[97,110,100,101,114,101],[97,110,100,101,114,101]),([101,100,105,116,101,100],[104,101,114,97,117,115,103,101,103,101,98,101,110,32,118,111,110],[104,101,114,97,117,115,103,101,103,101,98,101,110,32,118,111,110]),([99,111,110,116,101,110,116,115],[73,110,104,97,108,116],[73,110,104,97,108,116]),([105,110,100,101,120],[82,101,103,105,115,116,101,114],[82,101,103,105,115,116,101,114]),([114,101,102,101,114,101,110,99,101,115],[76,105,116,101,114,97,116,117,114],[76,105,116,101,114,97,116,117,114]),([103,108,111,115,115,97,114,121],[71,108,111,115,115,97,114],[71,108,111,115,115,97,114,101]),([110,111,116,101],[65,110,109,101,114,107,117,110,103],[65,110,109,101,114,107,117,110,103,101,110]),([99,104,97,112,116,101,114],[75,97,112,105,116,101,108],[75,97,112,105,116,101,108])]
def words_fr:List Word:=[([115,101,99,116,105,111,110],[83,101,99,116,105,111,110],[83,101,99,116,105,111,110,115]),([102,105,103,117,114,101],[70,105,103,117,114,101],[70,105,103,117,114,101,115]),([116,97,98,108,101],[84,97,98,108,101,97,117],[84,97,98,108,101,97,117,120]),([101,113,117,97,116,105,111,110],[195,137,113,117,97,116,105,111,110],[195,137,113,117,97,116,105,111,110,115]),([112,97,103,101],[80,97,103,101],[80,97,103,101,115]),([97,110,100],[101,116],[101,116]),([111,116,104,101,114,115],[97,117,116,114,101,115],[97,117,116,114,101,115]),([101,100,105,116,101,100],[195,169,100,105,116,195,169,32,112,97,114],[195,169,100,105,116,195,169,32,112,97,114]),([99,111,110,116,101,110,116,115],[84,97,98,108,101,32,100,101,115,32,109,97,116,105,195,168,114,101,115],[84,97,98,108,101,32,100,101,115,32,109,97,116,105,195,168,114,101,115]),([105,110,100,101,120],[73,110,100,101,120],[73,110,100,101,120]),([114,101,102,101,114,101,110,99,101,115],[82,195,169,102,195,169,114,101,110,99,101,115],[82,195,169,102,195,169,114,101,110,99,101,115]),([103,108,111,115,115,97,114,121],[71,108,111,115,115,97,105,114,101],[71,108,111,115,115,97,105,114,101,115]),([110,111,116,101],[78,111,116,101],[78,111,116,101,115]),([99,104,97,112,116,101,114],[67,104,97,112,105,116,114,101],[67,104,97,112,105,116,114,101,115])]
def words_es:List Word:=[([115,101,99,116,105,111,110],[83,101,99,99,105,195,179,110],[83,101,99,99,105,111,110,101,115]),([102,105,103,117,114,101],[70,105,103,117,114,97],[70,105,103,117,114,97,115]),([116,97,98,108,101],[84,97,98,108,97],[84,97,98,108,97,115]),([101,113,117,97,116,105,111,110],[69,99,117,97,99,105,195,179,110],[69,99,117,97,99,105,111,110,101,115]),([112,97,103,101],[80,195,161,103,105,110,97],[80,195,161,103,105,110,97,115]),([97,110,100],[121],[121]),([111,116,104,101,114,115],[111,116,114,111,115],[111,116,114,111,115]),([101,100,105,116,101,100],[101,100,105,116,97,100,111,32,112,111,114],[101,100,105,116,97,100,111,32,112,111,114]),([99,111,110,116,101,110,116,115],[67,111,110,116,101,110,105,100,111],[67,111,110,116,101,110,105,100,111]),([105,110,100,101,120],[195,141,110,100,105,99,101],[195,141,110,100,105,99,101,115]),([114,101,102,101,114,101,110,99,101,115],[82,101,102,101,114,101,110,99,105,97,115],[82,101,102,101,114,101,110,99,105,97,115]),([103,108,111,115,115,97,114,121],[71,108,111,115,97,114,105,111],[71,108,111,115,97,114,105,111,115]),([110,111,116,101],[78,111,116,97],[78,111,116,97,115]),([99,104,97,112,116,101,114],[67,97,112,195,173,116,117,108,111],[67,97,112,195,173,116,117,108,111,115])]
theorem run_insN (w:World) (L:List Word) (i:Nat) (x:Word) (h:L[i]? = some x) (hd:∀ y∈L.take i,y.1≠x.1) :
  (Instr.mapUpdate 256 (.map (some w.heap.size)) (.string (bs x.1)) (.agg #[.string (bs x.2.1),.string (bs x.2.2)])).run Tryz.prog (mapW w (L.take i))=.ok () (mapW w (L.take (i+1))):=by
 have e:L.take (i+1)=L.take i ++ [x]:=by rw [List.take_succ,h]; rfl
 rw [e]; exact run_ins w _ x.1 x.2.1 x.2.2 hd
set_option maxRecDepth 100000 in
set_option maxHeartbeats 3200000 in
theorem words_en_any (w:World):Calls Tryz.prog 209 #[.string (bs [101,110])] w fun e w'=>e=.returned (.map (some w.heap.size))∧w'=mapW w words_en:=by
 have mk:=run_make w
 have n0:=run_insN w words_en 0 _ rfl (by decide)
 have n1:=run_insN w words_en 1 _ rfl (by decide)
 have n2:=run_insN w words_en 2 _ rfl (by decide)
 have n3:=run_insN w words_en 3 _ rfl (by decide)
 have n4:=run_insN w words_en 4 _ rfl (by decide)
 have n5:=run_insN w words_en 5 _ rfl (by decide)
 have n6:=run_insN w words_en 6 _ rfl (by decide)
 have n7:=run_insN w words_en 7 _ rfl (by decide)
 have n8:=run_insN w words_en 8 _ rfl (by decide)
 have n9:=run_insN w words_en 9 _ rfl (by decide)
 have n10:=run_insN w words_en 10 _ rfl (by decide)
 have n11:=run_insN w words_en 11 _ rfl (by decide)
 have n12:=run_insN w words_en 12 _ rfl (by decide)
 have n13:=run_insN w words_en 13 _ rfl (by decide)
 simp only [words_en,List.take_zero,List.take_succ_cons] at n0 n1 n2 n3 n4 n5 n6 n7 n8 n9 n10 n11 n12 n13
 go_enter Tryz.func209,Tryz.ntmps209
 go_wp2_with fail
 go_ret
 exact ⟨rfl,rfl⟩

set_option maxRecDepth 100000 in
set_option maxHeartbeats 3200000 in
theorem words_de_any (w:World):Calls Tryz.prog 209 #[.string (bs [100,101])] w fun e w'=>e=.returned (.map (some w.heap.size))∧w'=mapW w words_de:=by
 have mk:=run_make w
 have n0:=run_insN w words_de 0 _ rfl (by decide)
 have n1:=run_insN w words_de 1 _ rfl (by decide)
 have n2:=run_insN w words_de 2 _ rfl (by decide)
 have n3:=run_insN w words_de 3 _ rfl (by decide)
 have n4:=run_insN w words_de 4 _ rfl (by decide)
 have n5:=run_insN w words_de 5 _ rfl (by decide)
 have n6:=run_insN w words_de 6 _ rfl (by decide)
 have n7:=run_insN w words_de 7 _ rfl (by decide)
 have n8:=run_insN w words_de 8 _ rfl (by decide)
 have n9:=run_insN w words_de 9 _ rfl (by decide)
 have n10:=run_insN w words_de 10 _ rfl (by decide)
 have n11:=run_insN w words_de 11 _ rfl (by decide)
 have n12:=run_insN w words_de 12 _ rfl (by decide)
 have n13:=run_insN w words_de 13 _ rfl (by decide)
 simp only [words_de,List.take_zero,List.take_succ_cons] at n0 n1 n2 n3 n4 n5 n6 n7 n8 n9 n10 n11 n12 n13
 go_enter Tryz.func209,Tryz.ntmps209
 go_wp2_with fail
 go_ret
 exact ⟨rfl,rfl⟩

set_option maxRecDepth 100000 in
set_option maxHeartbeats 3200000 in
theorem romance_fr (w:World):Calls Tryz.prog 248 #[.string (bs [102,114])] w fun e w'=>e=.returned (.map (some w.heap.size))∧w'=mapW w words_fr:=by
 have mk:=run_make w
 have n0:=run_insN w words_fr 0 _ rfl (by decide)
 have n1:=run_insN w words_fr 1 _ rfl (by decide)
 have n2:=run_insN w words_fr 2 _ rfl (by decide)
 have n3:=run_insN w words_fr 3 _ rfl (by decide)
 have n4:=run_insN w words_fr 4 _ rfl (by decide)
 have n5:=run_insN w words_fr 5 _ rfl (by decide)
 have n6:=run_insN w words_fr 6 _ rfl (by decide)
 have n7:=run_insN w words_fr 7 _ rfl (by decide)
 have n8:=run_insN w words_fr 8 _ rfl (by decide)
 have n9:=run_insN w words_fr 9 _ rfl (by decide)
 have n10:=run_insN w words_fr 10 _ rfl (by decide)
 have n11:=run_insN w words_fr 11 _ rfl (by decide)
 have n12:=run_insN w words_fr 12 _ rfl (by decide)
 have n13:=run_insN w words_fr 13 _ rfl (by decide)
 simp only [words_fr,List.take_zero,List.take_succ_cons] at n0 n1 n2 n3 n4 n5 n6 n7 n8 n9 n10 n11 n12 n13
 go_enter Tryz.func248,Tryz.ntmps248
 go_wp2_with fail
 go_ret
 exact ⟨rfl,rfl⟩

set_option maxRecDepth 100000 in
set_option maxHeartbeats 3200000 in
theorem romance_es (w:World):Calls Tryz.prog 248 #[.string (bs [101,115])] w fun e w'=>e=.returned (.map (some w.heap.size))∧w'=mapW w words_es:=by
 have mk:=run_make w
 have n0:=run_insN w words_es 0 _ rfl (by decide)
 have n1:=run_insN w words_es 1 _ rfl (by decide)
 have n2:=run_insN w words_es 2 _ rfl (by decide)
 have n3:=run_insN w words_es 3 _ rfl (by decide)
 have n4:=run_insN w words_es 4 _ rfl (by decide)
 have n5:=run_insN w words_es 5 _ rfl (by decide)
 have n6:=run_insN w words_es 6 _ rfl (by decide)
 have n7:=run_insN w words_es 7 _ rfl (by decide)
 have n8:=run_insN w words_es 8 _ rfl (by decide)
 have n9:=run_insN w words_es 9 _ rfl (by decide)
 have n10:=run_insN w words_es 10 _ rfl (by decide)
 have n11:=run_insN w words_es 11 _ rfl (by decide)
 have n12:=run_insN w words_es 12 _ rfl (by decide)
 have n13:=run_insN w words_es 13 _ rfl (by decide)
 simp only [words_es,List.take_zero,List.take_succ_cons] at n0 n1 n2 n3 n4 n5 n6 n7 n8 n9 n10 n11 n12 n13
 go_enter Tryz.func248,Tryz.ntmps248
 go_wp2_with fail
 go_ret
 exact ⟨rfl,rfl⟩

set_option maxRecDepth 100000 in
theorem words_fr_any (w:World):Calls Tryz.prog 209 #[.string (bs [102,114])] w fun e w'=>e=.returned (.map (some w.heap.size))∧w'=mapW w words_fr:=by
 go_enter Tryz.func209,Tryz.ntmps209
 go_wp2_with fail
 refine (romance_fr _).mono ?_
 rintro e w1 ⟨rfl,hw⟩
 have HW:=Lib.hid hw
 clear hw
 go_wp2_with fail
 go_ret
 exact ⟨rfl,HW.out⟩

set_option maxRecDepth 100000 in
theorem words_es_any (w:World):Calls Tryz.prog 209 #[.string (bs [101,115])] w fun e w'=>e=.returned (.map (some w.heap.size))∧w'=mapW w words_es:=by
 go_enter Tryz.func209,Tryz.ntmps209
 go_wp2_with fail
 refine (romance_es _).mono ?_
 rintro e w1 ⟨rfl,hw⟩
 have HW:=Lib.hid hw
 clear hw
 go_wp2_with fail
 go_ret
 exact ⟨rfl,HW.out⟩

set_option maxRecDepth 100000 in
theorem romance_no (l:Bs) (w:World) (h3:(l == [102,114])=false) (h4:(l == [101,115])=false):Calls Tryz.prog 248 #[.string (bs l)] w fun e w'=>e=.returned (.map none)∧w=w':=by
 go_enter Tryz.func248,Tryz.ntmps248
 go_wp2_with fail
 go_ret
 exact ⟨rfl,rfl⟩
set_option maxRecDepth 100000 in
theorem words_no (l:Bs) (w:World) (h1:(l == [101,110])=false) (h2:(l == [100,101])=false) (h3:(l == [102,114])=false) (h4:(l == [101,115])=false):Calls Tryz.prog 209 #[.string (bs l)] w fun e w'=>e=.returned (.map none)∧w=w':=by
 go_enter Tryz.func209,Tryz.ntmps209
 go_wp2_with fail
 refine (romance_no l _ h3 h4).mono ?_
 rintro e w1 ⟨rfl,rfl⟩
 go_wp2_with fail
 go_ret
 exact ⟨rfl,rfl⟩


/-- The languages' codes. -/
def lEn:Bs:=[101,110]
def lDe:Bs:=[100,101]
def lFr:Bs:=[102,114]
def lEs:Bs:=[101,115]
set_option maxRecDepth 100000 in
set_option maxHeartbeats 800000 in
theorem term_gen (lang k v:Bs) (L:List Word) (n:Int) (w:World) (hl:∀ w,Calls Tryz.prog 209 #[.string (bs lang)] w fun e w'=>e=.returned (.map (some w.heap.size))∧w'=mapW w L) (hk:L.find? (fun x=>x.1 == k)=some (k,v,v)):Calls Tryz.prog 162 #[.string (bs lang),.string (bs k),.int .i64 n] w fun e w'=>e=.returned (.tuple #[.string (bs v),.bool true])∧Kept w w':=by
 have HL:=Lib.hid hl
 have HF:=Lib.hid hk
 clear hl hk
 by_cases hn:n=1
 ·subst hn
  go_enter Tryz.func162,Tryz.ntmps162
  go_wp2_with fail
  refine (HL.out _).mono ?_
  rintro e w1 ⟨rfl,hw⟩
  have lk:=run_look w1 w.heap.size L k v v (by rw [hw]; exact mapW_heap _ _) HF.out
  have HK:Hid (Kept w w1):=by show Kept _ _; rw [hw]; exact kept_alloc _ _
  clear hw
  go_wp2_with fail
  go_ret2
  exact ⟨rfl,HK.out.trans (kept_alloc _ _)⟩
 ·have hn':(n == 1)=false:=by simpa using hn
  clear hn
  go_enter Tryz.func162,Tryz.ntmps162
  go_wp2_with fail
  refine (HL.out _).mono ?_
  rintro e w1 ⟨rfl,hw⟩
  have lk:=run_look w1 w.heap.size L k v v (by rw [hw]; exact mapW_heap _ _) HF.out
  have HK:Hid (Kept w w1):=by show Kept _ _; rw [hw]; exact kept_alloc _ _
  clear hw
  go_wp2_with fail
  go_ret2
  exact ⟨rfl,HK.out.trans (kept_alloc _ _)⟩
theorem term_en_and (n:Int) (w:World):Calls Tryz.prog 162 #[.string (bs [101,110]),.string (bs [97,110,100]),.int .i64 n] w fun e w'=>e=.returned (.tuple #[.string (bs [97,110,100]),.bool true])∧Kept w w' :=
 term_gen _ _ _ words_en n w words_en_any (by decide)
theorem term_en_others (n:Int) (w:World):Calls Tryz.prog 162 #[.string (bs [101,110]),.string (bs [111,116,104,101,114,115]),.int .i64 n] w fun e w'=>e=.returned (.tuple #[.string (bs [111,116,104,101,114,115]),.bool true])∧Kept w w' :=
 term_gen _ _ _ words_en n w words_en_any (by decide)
theorem term_de_and (n:Int) (w:World):Calls Tryz.prog 162 #[.string (bs [100,101]),.string (bs [97,110,100]),.int .i64 n] w fun e w'=>e=.returned (.tuple #[.string (bs [117,110,100]),.bool true])∧Kept w w' :=
 term_gen _ _ _ words_de n w words_de_any (by decide)
theorem term_de_others (n:Int) (w:World):Calls Tryz.prog 162 #[.string (bs [100,101]),.string (bs [111,116,104,101,114,115]),.int .i64 n] w fun e w'=>e=.returned (.tuple #[.string (bs [97,110,100,101,114,101]),.bool true])∧Kept w w' :=
 term_gen _ _ _ words_de n w words_de_any (by decide)
theorem term_fr_and (n:Int) (w:World):Calls Tryz.prog 162 #[.string (bs [102,114]),.string (bs [97,110,100]),.int .i64 n] w fun e w'=>e=.returned (.tuple #[.string (bs [101,116]),.bool true])∧Kept w w' :=
 term_gen _ _ _ words_fr n w words_fr_any (by decide)
theorem term_fr_others (n:Int) (w:World):Calls Tryz.prog 162 #[.string (bs [102,114]),.string (bs [111,116,104,101,114,115]),.int .i64 n] w fun e w'=>e=.returned (.tuple #[.string (bs [97,117,116,114,101,115]),.bool true])∧Kept w w' :=
 term_gen _ _ _ words_fr n w words_fr_any (by decide)
theorem term_es_and (n:Int) (w:World):Calls Tryz.prog 162 #[.string (bs [101,115]),.string (bs [97,110,100]),.int .i64 n] w fun e w'=>e=.returned (.tuple #[.string (bs [121]),.bool true])∧Kept w w' :=
 term_gen _ _ _ words_es n w words_es_any (by decide)
theorem term_es_others (n:Int) (w:World):Calls Tryz.prog 162 #[.string (bs [101,115]),.string (bs [111,116,104,101,114,115]),.int .i64 n] w fun e w'=>e=.returned (.tuple #[.string (bs [111,116,114,111,115]),.bool true])∧Kept w w' :=
 term_gen _ _ _ words_es n w words_es_any (by decide)
theorem zero_pair (w:World):(zeroValue 254).run Tryz.prog w=.ok (.agg #[.string (bs []),.string (bs [])]) w:=by kernel_rfl
theorem run_look_nil (k:Bs) (w:World):(Instr.lookup 256 (.map none) (.string (bs k)) true).run Tryz.prog w=.ok (.tuple #[.agg #[.string (bs []),.string (bs [])],.bool false]) w:=by
 have hu:Tryz.prog.underlying 256=some (.map 9 254):=Tryz.underlying256
 have hf:=run_find_none w [] k (by simp)
 have e:(entsOf []).toList=([]:List MapEntry):=rfl
 rw [e] at hf
 unfold Instr.lookup
 simp only [Sem.run_bind,run_underlying hu,Result.andThen]
 simp only [Sem.run_pure,Result.andThen,run_check,hf,zero_pair,Sem.run_bind]
 simp [Sem.run_pure]
set_option maxRecDepth 100000 in
set_option maxHeartbeats 800000 in
theorem term_no (l k:Bs) (n:Int) (w:World) (h1:(l == [101,110])=false) (h2:(l == [100,101])=false) (h3:(l == [102,114])=false) (h4:(l == [101,115])=false):Calls Tryz.prog 162 #[.string (bs l),.string (bs k),.int .i64 n] w fun e w'=>e=.returned (.tuple #[.string (bs []),.bool false])∧Kept w w':=by
 have lk:=run_look_nil k
 have HW:=Lib.hid (fun w=>words_no l w h1 h2 h3 h4)
 clear h1 h2 h3 h4
 go_enter Tryz.func162,Tryz.ntmps162
 go_wp2_with fail
 refine (HW.out _).mono ?_
 rintro e w1 ⟨rfl,rfl⟩
 go_wp2_with fail
 go_ret2
 exact ⟨rfl,kept_alloc _ _⟩

end Go.Proofs.YtmcoomlkbgiboaaGreatDoor

/- person.clean and person.joined. Conditions: lengths. -/
set_option linter.all false
namespace Go.Proofs.YtmcoomlkbgiboaaGreatDoor
open Go.RowKit

def nonE (x:Bs):Bool:=!x.isEmpty
theorem filter_take (sp:List Bs) (k:Nat) (x:Bs) (h:sp[k]? = some x):(sp.take (k+1)).filter nonE=(sp.take k).filter nonE ++ (if nonE x then [x] else []):=by
 obtain ⟨hk,rfl⟩:=List.getElem?_eq_some_iff.1 h
 rw [List.take_succ_eq_append_getElem hk,List.filter_append]
 congr 1
 by_cases q:nonE sp[k]=true
 ·rw [if_pos q]; simp [q]
 ·rw [if_neg q]; simp [q]
theorem filter_le (sp:List Bs) (k:Nat):((sp.take k).filter nonE).length≤k :=
 Nat.le_trans (List.length_filter_le _ _) (List.length_take_le _ _)
theorem join_len_le (xs:List Bs):(Lib.join xs [32]).length≤(xs.map (fun x=>x.length+1)).sum:=by
 cases xs with
 | nil=>simp [Lib.join_nil]
 | cons a r =>
  rw [Lib.join_cons]
  have:∀ r:List Bs,(Lib.joinTail [32] r).length=(r.map (fun x=>x.length+1)).sum:=by
   intro r
   induction r with
   | nil=>rfl
   | cons b r ih=>unfold Lib.joinTail at ih ⊢; simp only [List.map_cons,List.flatten_cons,List.length_append,ih,List.sum_cons]; simp; omega
  rw [List.length_append,this r]
  simp
theorem sum_filter_le (p:Bs→Bool):∀ xs:List Bs,((xs.filter p).map (fun x=>x.length+1)).sum≤(xs.map (fun x=>x.length+1)).sum
 | []=>by simp
 | a :: r=>by
  have ih:=sum_filter_le p r
  rw [List.filter_cons]
  split <;> simp <;> omega
theorem runC_sum (c:UInt8) (l:Bs):((runC c l).1.map (fun x=>x.length+1)).sum+(runC c l).2.length=l.length:=by
 refine snoc_ind (P:=fun l=>((runC c l).1.map (fun x=>x.length+1)).sum+(runC c l).2.length=l.length) ?_ ?_ l
 ·simp [runC]
 ·intro l b ih
  rw [runC_snoc]
  unfold stepC
  split <;> simp [List.sum_append] <;> omega
theorem splitC_sum (c:UInt8) (l:Bs):((splitC c l).map (fun x=>x.length+1)).sum=l.length+1:=by
 have:=runC_sum c l
 unfold splitC
 rw [List.map_append,List.sum_append]
 simp; omega
theorem cleanL_le (l:Bs):(cleanL l).length≤l.length+1:=by
 unfold cleanL wordsOf
 have h1:=join_len_le ((splitC 32 l).filter (fun x=>!x.isEmpty))
 have h2:=sum_filter_le (fun x=>!x.isEmpty) (splitC 32 l)
 have h3:=splitC_sum 32 l
 omega

set_option maxRecDepth 100000 in
set_option maxHeartbeats 1600000 in
theorem clean_any (l:Bs) (w:World) (hg:Gnd w) (hs:l.length≤100000000) :
  Calls Tryz.prog 261 #[.string (bs l)] w fun e w'=>e=.returned (.string (bs (cleanL l)))∧Kept w w':=by
 obtain ⟨i0,hi,hz0,hz1,hz2⟩:=info_parts Tryz.infoStr
 have HCL:Hid (cleanL l=Lib.join ((splitC 32 l).filter nonE) [32]):=rfl
 have hlen:=cleanL_le l
 have hsl:(splitC 32 l).length≤l.length+1:=by rw [splitC_length]; have:=List.count_le_length (a:=(32:UInt8)) (l:=l); omega
 go_enter Tryz.func261,Tryz.ntmps261
 go_wp2_with fail
 refine (split_any l 32 _ hg (by omega)).mono ?_
 rintro e w1 ⟨rfl,hw1⟩
 have hz:w1.heap.size=w.heap.size+1:=by rw [hw1]; simp
 have hk1:Kept w w1:=by rw [hw1]; exact kept_alloc _ _
 have hc1:∀ j x,(splitC 32 l)[j]? = some x→w1.cell? ⟨w.heap.size,j,none⟩=some (.string (bs x)):=by
  intro j x hx
  have:=new_cells w (strCells (splitC 32 l)).toArray 9 w.heap.size rfl j (.string (bs x)) (strCells_at _ j x hx)
  rw [hw1]
  have e1:((⟨w.heap.size,0,none⟩:Addr).add j)=⟨w.heap.size,j,none⟩:=by unfold Addr.add; split <;> simp_all
  rw [e1] at this; exact this
 generalize splitC 32 l=sp at *
 have HC1:=Lib.hid hc1
 have HK1:=Lib.hid hk1
 have HZ:=Lib.hid hz
 have hzl:w.heap.size<w1.heap.size:=by omega
 clear hc1 hk1 hw1 hz
 go_wp2_with fail
 go_loopw [3,9] (fun v i wr=>∃ (k:Nat),k≤sp.length∧i=.int .i64 k∧wr.ownsRow w1.heap.size 9 1 v ((sp.take k).filter nonE).length (strCells ((sp.take k).filter nonE))∧Kept w1 wr) (fun _ i _=>sp.length - (intOf i).toNat)
 case atStart=>exact ⟨0,Nat.zero_le _,rfl,World.ownsRow_nil _ _ _ _,Kept.refl _⟩
 case round =>
  obtain ⟨k,hkl,rfl,hown,hkr⟩:=hrel
  by_cases hlt:k<sp.length
  ·obtain ⟨x,hx⟩:∃ x,sp[k]? = some x:=⟨_,List.getElem?_eq_getElem hlt⟩
   have hcell:wr.cell? ⟨w.heap.size,k,none⟩=some (.string (bs x)):=(hkr.cell (p:=⟨w.heap.size,k,none⟩) hzl).trans (HC1.out k x hx)
   have HF:=Lib.hid (filter_take sp k x hx)
   have hfl:=filter_le sp k
   generalize (sp.take k).filter nonE=ws at *
   have hsz:w1.heap.size≤wr.heap.size:=hkr.size
   have HR:=Lib.hid hkr
   have HW:=Lib.hid hown
   clear hkr hx hown
   by_cases he:x=[]
   ·subst he
    go_wp2_with fail
    go_roundw
    case rel=>exact ⟨k+1,by omega,by go_num,by rw [HF.out]; simpa [nonE] using HW.out,HR.out⟩
    case measure=>simp [intOf]; omega
   ·have hown:=HW.out
    have hee:x.isEmpty=false:=by simpa using he
    go_wp2_with (at_builtin; refine wpList_append_own _ rfl _ _ 29 rfl w1.heap.size 9 i0 (.string ⟨#[]⟩) 1 16 Tryz.underlying29 hi hz0 hz1 hz2 rfl (by decide) _ _ _ rfl (hown.alloc _) ⟨wr.heap.size,0,none⟩ 1 1 [.string (bs x)] rfl rfl ?c1 ?c2 ?c3 ?c4 ?c5 ?_)
    case c1=>exact new_cells _ #[.string (bs x)] _ _ (by simp)
    case c2=>intro u hu; simp at hu; subst hu; rfl
    case c3=>unfold maxLen; omega
    case c4=>omega
    case c5=>simp; omega
    intro v' w2 hown2 hgrow _
    have HB2:=Lib.hid ((HR.out.trans (kept_alloc wr _)).trans' (grown_below (hown.alloc _) hgrow (by simp; omega)))
    rw [← strCells_snoc] at hown2
    have HO:=Lib.hid hown2
    clear hown2 hgrow hown
    go_wp2_with fail
    go_roundw
    case rel=>exact ⟨k+1,by omega,by go_num,by rw [HF.out]; simpa [nonE,hee] using HO.out,HB2.out⟩
    case measure=>simp [intOf]; omega
  ·have HW:=Lib.hid (Strs.own hown)
   have HR:=Lib.hid hkr
   rw [List.take_of_length_le (by omega)] at HW
   have hfl:(sp.filter nonE).length≤sp.length:=List.length_filter_le _ _
   clear hown hkr
   go_wp2_with fail
   refine (join_any _ _ _ _ HW.out (by omega) (by rw [← HCL.out]; omega)).mono ?_
   rintro e w2 ⟨rfl,hk2⟩
   go_wp2_with fail
   go_ret
   exact ⟨ret_bs HCL.out.symm,(HK1.out.trans HR.out).trans hk2⟩
end Go.Proofs.YtmcoomlkbgiboaaGreatDoor

/- locale.Term at the two keys that lists use, in any language; locale.List. Conditions: lengths. -/
set_option linter.all false
namespace Go.Proofs.YtmcoomlkbgiboaaGreatDoor
open Go.RowKit

/-- The word for 'and' in a language, and for 'others'. -/
def andOf (l:Bs):Option Bs:=if l=lEn then some [97,110,100] else if l=lDe then some [117,110,100] else if l=lFr then some [101,116] else if l=lEs then some [121] else none
def othersOf (l:Bs):Option Bs:=if l=lEn then some [111,116,104,101,114,115] else if l=lDe then some [97,110,100,101,114,101] else if l=lFr then some [97,117,116,114,101,115] else if l=lEs then some [111,116,114,111,115] else none
theorem beq_no {l m:Bs} (h:¬ l=m):(l == m)=false:=by simpa using h

theorem term_and (l:Bs) (n:Int) (w:World):Calls Tryz.prog 162 #[.string (bs l),.string (bs [97,110,100]),.int .i64 n] w fun e w'=>e=.returned (.tuple #[.string (bs ((andOf l).getD [])),.bool (andOf l).isSome])∧Kept w w':=by
 unfold andOf
 by_cases h1:l=lEn
 ·rw [if_pos h1,h1]; exact term_en_and n w
 by_cases h2:l=lDe
 ·rw [if_neg h1,if_pos h2,h2]; exact term_de_and n w
 by_cases h3:l=lFr
 ·rw [if_neg h1,if_neg h2,if_pos h3,h3]; exact term_fr_and n w
 by_cases h4:l=lEs
 ·rw [if_neg h1,if_neg h2,if_neg h3,if_pos h4,h4]; exact term_es_and n w
 ·rw [if_neg h1,if_neg h2,if_neg h3,if_neg h4]; exact term_no l _ n w (beq_no h1) (beq_no h2) (beq_no h3) (beq_no h4)
theorem term_others (l:Bs) (n:Int) (w:World):Calls Tryz.prog 162 #[.string (bs l),.string (bs [111,116,104,101,114,115]),.int .i64 n] w fun e w'=>e=.returned (.tuple #[.string (bs ((othersOf l).getD [])),.bool (othersOf l).isSome])∧Kept w w':=by
 unfold othersOf
 by_cases h1:l=lEn
 ·rw [if_pos h1,h1]; exact term_en_others n w
 by_cases h2:l=lDe
 ·rw [if_neg h1,if_pos h2,h2]; exact term_de_others n w
 by_cases h3:l=lFr
 ·rw [if_neg h1,if_neg h2,if_pos h3,h3]; exact term_fr_others n w
 by_cases h4:l=lEs
 ·rw [if_neg h1,if_neg h2,if_neg h3,if_pos h4,h4]; exact term_es_others n w
 ·rw [if_neg h1,if_neg h2,if_neg h3,if_neg h4]; exact term_no l _ n w (beq_no h1) (beq_no h2) (beq_no h3) (beq_no h4)

def sepL:Bs:=[44,32]
/-- An enumeration. -/
def llistL (l:Bs) (xs:List Bs):Bs:=if (andOf l).isSome=false∨xs.length<2 then Lib.join xs sepL else Lib.join xs.dropLast sepL ++ [32] ++ (andOf l).getD [] ++ [32] ++ xs.getLastD []
theorem andOf_len (l:Bs):((andOf l).getD []).length≤3:=by
 unfold andOf
 by_cases h1:l=lEn
 ·rw [if_pos h1]; decide
 by_cases h2:l=lDe
 ·rw [if_neg h1,if_pos h2]; decide
 by_cases h3:l=lFr
 ·rw [if_neg h1,if_neg h2,if_pos h3]; decide
 by_cases h4:l=lEs
 ·rw [if_neg h1,if_neg h2,if_neg h3,if_pos h4]; decide
 ·rw [if_neg h1,if_neg h2,if_neg h3,if_neg h4]; decide

theorem slice_strs {w:World} {a:Option Addr} {c:Nat} {xs:List Bs} (h:Strs w (.slice a xs.length c) xs) (n:Nat) (hn:n≤xs.length):Strs w (.slice a n c) (xs.take n):=by
 obtain ⟨a',c',hv,hc,h3⟩:=h
 obtain ⟨rfl,_,rfl⟩:=Value.slice.inj hv
 refine ⟨a,c,by simp; omega,by simp; omega,fun q=>?_⟩
 obtain ⟨g,o,ha,hg,hcell⟩:=h3 (by simp at q; omega)
 refine ⟨g,o,ha,hg,fun j x hx=>hcell j x ?_⟩
 rw [List.getElem?_take] at hx
 split at hx
 ·exact hx
 ·cases hx

set_option maxRecDepth 100000 in
set_option maxHeartbeats 3200000 in
theorem llist_any (l:Bs) (v:Value) (xs:List Bs) (w:World) (hv:Strs w v xs) (hN:xs.length≤1000000) (hlen:(Lib.join xs sepL).length≤10000000) (hlen2:(Lib.join xs.dropLast sepL).length≤10000000) (hlast:(xs.getLastD []).length≤10000000) :
  Calls Tryz.prog 164 #[.string (bs l),v] w fun e w'=>e=.returned (.string (bs (llistL l xs)))∧Kept w w':=by
 have HL:Hid (llistL l xs=if (andOf l).isSome=false∨xs.length<2 then Lib.join xs sepL else Lib.join xs.dropLast sepL ++ [32] ++ (andOf l).getD [] ++ [32] ++ xs.getLastD []):=rfl
 have HT:=Lib.hid (fun w=>term_and l 1 w)
 have hal:=andOf_len l
 have HV:=Lib.hid hv
 have HSP:Hid (sepL=[44,32]):=rfl
 generalize (andOf l).getD []=an at *
 generalize (andOf l).isSome=ok at *
 obtain ⟨a,c,rfl,hc,h3⟩:=hv
 have H3:=Lib.hid h3
 clear h3
 cases ok
 ·go_enter Tryz.func164,Tryz.ntmps164
  go_wp2_with fail
  refine (HT.out _).mono ?_
  rintro e w1 ⟨rfl,hk1⟩
  have HK1:=Lib.hid hk1
  clear hk1
  go_wp2_with fail
  rw [← HSP.out]
  refine (join_any _ xs _ _ (HV.out.kept HK1.out) (by omega) (by omega)).mono ?_
  rintro e w2 ⟨rfl,hk2⟩
  have HK2:=Lib.hid (HK1.out.trans hk2)
  clear hk2
  go_wp2_with fail
  go_ret
  exact ⟨ret_bs (by rw [HL.out,if_pos (.inl (by first | rfl | trivial))]),HK2.out⟩
 by_cases h2:xs.length<2
 ·go_enter Tryz.func164,Tryz.ntmps164
  go_wp2_with fail
  refine (HT.out _).mono ?_
  rintro e w1 ⟨rfl,hk1⟩
  have HK1:=Lib.hid hk1
  clear hk1
  go_wp2_with fail
  rw [← HSP.out]
  refine (join_any _ xs _ _ (HV.out.kept HK1.out) (by omega) (by omega)).mono ?_
  rintro e w2 ⟨rfl,hk2⟩
  have HK2:=Lib.hid (HK1.out.trans hk2)
  clear hk2
  go_wp2_with fail
  go_ret
  exact ⟨ret_bs (by rw [HL.out,if_pos (.inr h2)]),HK2.out⟩
 ·obtain ⟨g,o,rfl,hg,hcell⟩:=H3.out (by omega)
  have hx:xs[xs.length - 1]? = some (xs.getLastD []):=by
   rw [List.getLastD_eq_getLast?,List.getLast?_eq_getElem?,List.getElem?_eq_getElem (by omega)]; rfl
  have hcl:=hcell (xs.length - 1) _ hx
  have HE:Hid (llistL l xs=Lib.join xs.dropLast sepL ++ [32] ++ an ++ [32] ++ xs.getLastD []):=by show _=_; rw [HL.out,if_neg (by simp; omega)]
  have HD:Hid (xs.dropLast=xs.take (xs.length - 1)):=by show _=_; rw [List.dropLast_eq_take]
  generalize xs.getLastD []=la at *
  have HC:=Lib.hid hcl
  clear hcl hx hcell
  go_enter Tryz.func164,Tryz.ntmps164
  go_wp2_with fail
  refine (HT.out _).mono ?_
  rintro e w1 ⟨rfl,hk1⟩
  have HK1:=Lib.hid hk1
  have c1:w1.cell? ⟨g,o+(xs.length - 1),none⟩=some (.string (bs la)):=(hk1.cell (p:=⟨g,o+(xs.length - 1),none⟩) hg).trans HC.out
  have hg1:g<w1.heap.size:=by have:=hk1.size; omega
  clear hk1
  go_wp2_with fail
  have HJ:Hid (∀ w2,Kept w1 w2→Calls Tryz.prog 88 #[.slice (some ⟨g,o,none⟩) (xs.length - 1) c,.string (bs [44,32])] w2 fun e w'=>e=.returned (.string (bs (Lib.join xs.dropLast sepL)))∧Kept w2 w'):=by
   intro w2 hk
   have hst:=slice_strs (HV.out.kept (HK1.out.trans hk)) (xs.length - 1) (by omega)
   rw [← HD.out] at hst
   exact join_any _ xs.dropLast sepL w2 hst (by simp; omega) (by omega)
  have HC2:Hid (∀ {w2:World},Kept w1.drew w2→w2.cell? ⟨g,o+(xs.length - 1),none⟩=some (.string (bs la))∧g<w2.heap.size∧Kept w w2):=by
   intro w2 hk
   have hk:Kept w1 w2:=(kept_drewN w1 1).trans hk
   exact ⟨(hk.cell (p:=⟨g,o+(xs.length - 1),none⟩) hg1).trans c1,by have:=hk.size; omega,HK1.out.trans hk⟩
  generalize hjl:Lib.join xs.dropLast sepL=jl at *
  have hsum:IntKind.i64.wrap ((xs.length:Int) - 1)=(xs.length:Int) - 1:=IntWalk.i64_in _ (by omega)
  go_region_with (go_at_call 88; refine (HJ.out _ (kept_drewN w1 1)).mono ?_; rintro e w2 ⟨rfl,hk2⟩; obtain ⟨q1,q2,q3⟩:=HC2.out hk2; have HQ:=Lib.hid q3; clear q3 hk2)
  all_goals
   go_wp2_with fail
   go_ret
   exact ⟨ret_bs (by rw [HE.out]; simp),HQ.out⟩
end Go.Proofs.YtmcoomlkbgiboaaGreatDoor
