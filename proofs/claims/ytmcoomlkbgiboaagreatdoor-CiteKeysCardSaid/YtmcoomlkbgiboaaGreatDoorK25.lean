/- A style in memory; checkCite of style. Conditions: lengths. -/
import Derived.Test.YtmcoomlkbgiboaaGreatDoorK24
import Derived.Test.YtmcoomlkbgiboaaGreatDoorK01
import Derived.Test.YtmcoomlkbgiboaaGreatDoorK04
import Derived.Test.YtmcoomlkbgiboaaGreatDoorK15
import Derived.Test.YtmcoomlkbgiboaaGreatDoorK23
import Derived.Test.YtmcoomlkbgiboaaGreatDoorK02
import Derived.Test.YtmcoomlkbgiboaaGreatDoorK11

set_option linter.all false
namespace Go.Proofs.YtmcoomlkbgiboaaGreatDoor
open Go.RowKit

structure StyT where
 name:Bs
 numeric:Bool
 sort:Bs
 cite:Bs
 bare:Bs
 between:Bs
 begin_:Bs
 end_:Bs
 most:Int
 entries:List Pr
def styCells (vE:Value) (y:StyT):Array Value:=#[.string (bs y.name),.bool y.numeric,.string (bs y.sort),.string (bs y.cite),.string (bs y.bare),.string (bs y.between),.string (bs y.begin_),.string (bs y.end_),.int .i64 y.most,vE]
def styV (vE:Value) (y:StyT):Value:=.agg (styCells vE y)
def kSuffix:Bs:=[115,117,102,102,105,120]
def kNumber:Bs:=[110,117,109,98,101,114]
def citE (y:StyT):Int:=if splE y.cite≠0 then splE y.cite else if freeB (splL y.cite) (if y.numeric=true then kNumber else kSuffix)=false then 8 else splE y.bare
def SmallY (y:StyT):Prop:=y.name.length≤100000∧y.sort.length≤100000∧y.cite.length≤100000∧y.bare.length≤100000∧y.between.length≤100000∧y.begin_.length≤100000∧y.end_.length≤100000∧y.entries.length≤10000∧∀ p∈y.entries,p.1.length≤100000∧p.2.length≤100000
theorem splP_len:∀ (f:Nat) (r:Bs) (G g:Nat) (l:List Pc),splP f r G g=some l→l.length≤r.length
 | 0,_,_,_,_,h=>by cases h
 | f+1,[],G,g,l,h=>by
  rw [splP_end] at h
  split at h
  ·cases h; simp
  ·cases h
 | f+1,b :: r,G,g,l,h=>by
  cases hin:inSet spSet b with
  | false =>
   rw [splP_run _ _ _ hin,Option.map_eq_some_iff] at h
   obtain ⟨l',h1,rfl⟩:=h
   have:=splP_len f _ G g l' h1
   rw [List.length_drop] at this
   rcases runN_pos (r:=r) hin with ⟨_,hn⟩ | ⟨k,_,hn,hk,hkl⟩
   ·rw [hn] at this; simp only [List.length_cons] at this ⊢; omega
   ·rw [hn] at this; simp only [List.length_cons] at this ⊢; omega
  | true =>
   rcases spSet_cases hin with rfl | rfl | rfl | rfl
   ·rw [splP_fld] at h
    split at h
    ·rw [Option.map_eq_some_iff] at h
     obtain ⟨l',h1,rfl⟩:=h
     have:=splP_len f _ G g l' h1
     rw [List.length_drop] at this
     simp; omega
    ·cases h
   ·rw [splP_bad] at h; cases h
   ·rw [splP_open] at h
    split at h
    ·have:=splP_len f _ _ _ l h
     simp; omega
    ·cases h
   ·rw [splP_shut] at h
    split at h
    ·cases h
    ·have:=splP_len f _ _ _ l h
     simp; omega
theorem splL_len (t:Bs):(splL t).length≤t.length:=by
 unfold splL
 split
 ·unfold splT
  cases h:splP (t.length+1) t 0 0 with
  | none=>simp
  | some l=>exact splP_len _ t 0 0 l h
 ·simp
set_option maxRecDepth 100000 in
set_option maxHeartbeats 3200000 in
theorem scite_any (vE:Value) (y:StyT) (w:World) (hg:Gnd w) (hs:SmallY y):Calls Tryz.prog 84 #[styV vE y] w fun e w'=>e=.returned (.int .i64 (citE y))∧Kept w w':=by
 have HG:=Lib.hid hg
 obtain ⟨-,-,s3,s4,-⟩:=hs
 have HC:=Lib.hid (fun w h=>ssplit_any y.cite w h s3)
 have HB:=Lib.hid (fun w h=>ssplit_any y.bare w h s4)
 have hln:=splL_len y.cite
 have HF:=Lib.hid (fun v k w h=>sfree_any v (splL y.cite) k w h (by omega))
 have HE:Hid (citE y=if splE y.cite≠0 then splE y.cite else if freeB (splL y.cite) (if y.numeric=true then kNumber else kSuffix)=false then 8 else splE y.bare):=rfl
 unfold SplitP at HC HB
 generalize citE y=R at *
 generalize splE y.cite=E1 at *
 generalize splE y.bare=E2 at *
 generalize splL y.cite=L at *
 clear hg
 unfold styV styCells
 have HK0:=Lib.hid (kept_alloc w (.cells (styCells vE y) 33))
 have HB0:=Lib.hid (Blk.new w 33 (styCells vE y))
 unfold styCells at HK0 HB0
 go_enter Tryz.func84,Tryz.ntmps84
 go_wp2_with fail
 generalize w.alloc _=w0 at *
 generalize w.heap.size=B at *
 refine (HC.out _ (HG.out.kept HK0.out)).mono ?_
 rintro e w1 ⟨v1,rfl,hp1,hk1⟩
 have HP1:=Lib.hid hp1
 have HK1:=Lib.hid (HK0.out.trans hk1)
 have HB1:=Lib.hid (HB0.out.kept hk1)
 obtain ⟨a1,c1,rfl,-⟩:=hp1.form
 clear hk1 hp1 HC
 by_cases h1:E1=0
 case neg =>
  rw [if_pos h1] at HE
  have h1':(E1 == 0)=false:=by simpa using h1
  go_wp2_with fail
  go_ret
  exact ⟨ret_int HE.out.symm,HK1.out⟩
 subst h1
 rw [if_neg (by simp)] at HE
 have b1:w1.cell? ⟨B,1,none⟩=some (.bool y.numeric):=HB1.out.cell 1 _ rfl
 have z1:=HB1.out.lt
 cases hn:y.numeric
 all_goals
  rw [hn] at b1 HE
  simp only [Bool.false_eq_true,if_false,if_true] at HE
  clear hn
  (first | unfold kSuffix at HE | unfold kNumber at HE)
  go_wp2_with fail
  refine (HF.out _ _ _ HP1.out).mono ?_
  rintro e w2 ⟨rfl,hk2⟩
  have HK2:=Lib.hid (HK1.out.trans hk2)
  have HB2:=Lib.hid (HB1.out.kept hk2)
  clear hk2 b1 z1
  have HG2:=Lib.hid (HG.out.kept HK2.out)
  generalize freeB L _=F at *
  cases F with
  | false =>
   rw [if_pos rfl] at HE
   go_wp2_with fail
   go_ret
   exact ⟨ret_int HE.out.symm,HK2.out⟩
  | true =>
   rw [if_neg (by simp)] at HE
   have b4:w2.cell? ⟨B,4,none⟩=some (.string (bs y.bare)):=HB2.out.cell 4 _ rfl
   have z2:=HB2.out.lt
   go_wp2_with fail
   refine (HB.out _ HG2.out).mono ?_
   rintro e w3 ⟨v3,rfl,hp3,hk3⟩
   have HK3:=Lib.hid (HK2.out.trans hk3)
   clear hp3 hk3
   go_wp2_with fail
   go_ret
   exact ⟨ret_int HE.out.symm,HK3.out⟩
end Go.Proofs.YtmcoomlkbgiboaaGreatDoor

/- A set of texts that a call makes in memory: insertion and look-up. No condition. -/
set_option linter.all false
namespace Go.Proofs.YtmcoomlkbgiboaaGreatDoor
open Go.RowKit

def entK (k:Bs) (i:Nat):MapEntry:={ key:=.string (bs k),val:=.bool true,born:=i }
def entsK (ks:List Bs):Array MapEntry:=(ks.mapIdx fun i k=>entK k i).toArray
/-- Block m is the map of the keys ks. -/
def MapK (w:World) (m:Nat) (ks:List Bs):Prop:=w.heap[m]? = some (.map (entsK ks) ks.length)
/-- The world with another map of keys in block m. -/
def putK (w:World) (m:Nat) (ks:List Bs):World:={ w with heap:=w.heap.setIfInBounds m (.map (entsK ks) ks.length) }
theorem MapK.lt {w:World} {m:Nat} {ks:List Bs} (h:MapK w m ks):m<w.heap.size:=by
 rcases Nat.lt_or_ge m w.heap.size with q | q
 ·exact q
 ·unfold MapK at h; rw [Array.getElem?_eq_none q] at h; cases h
theorem MapK.only {S:Nat→Prop} {w w':World} {m:Nat} {ks:List Bs} (h:MapK w m ks) (k:Only S w w') (hs:¬ S m):MapK w' m ks:=by
 unfold MapK at h ⊢; rw [k.block m (MapK.lt h) hs]; exact h
theorem putK_map (w:World) (m:Nat) (ks:List Bs) (hm:m<w.heap.size):MapK (putK w m ks) m ks:=by
 unfold MapK putK; simp [hm]
theorem putK_only (w:World) (m:Nat) (ks:List Bs):Only (fun i=>i=m) w (putK w m ks) :=
 ⟨rfl,rfl,rfl,by simp [putK],fun k hk hs=>by simp [putK,Array.getElem?_setIfInBounds,Ne.symm hs]⟩
theorem entsK_snoc (ks:List Bs) (k:Bs):entsK (ks ++ [k])=(entsK ks).push (entK k ks.length):=by
 unfold entsK; rw [List.mapIdx_append]; simp
theorem findK_none (k:Bs):∀ (l:List Bs) (i j:Nat),k ∉ l→Instr.findNow .string (.string (bs k)) (l.mapIdx fun i' x=>entK x (i'+i)) j=some none
 | [],_,_,_=>rfl
 | x :: l,i,j,h=>by
  have hx:(bs k == bs x)=false:=by rw [bs_beq,beq_eq_false_iff_ne]; exact fun e=>h (by simp [e])
  rw [List.mapIdx_cons]
  unfold Instr.findNow
  simp only [entK,Instr.sameNow,hx]
  have:=findK_none k l (i+1) (j+1) (fun e=>h (by simp [e]))
  simp only [entK] at this
  rw [← this]
  congr 1
  apply List.ext_getElem?
  intro m
  simp [List.getElem?_mapIdx]
  cases l[m]? <;> simp; omega
theorem findK_some (k:Bs):∀ (l:List Bs) (i j:Nat),k∈l→∃ m,Instr.findNow .string (.string (bs k)) (l.mapIdx fun i' x=>entK x (i'+i)) j=some (some (m,.bool true))
 | [],_,_,h=>by cases h
 | x :: l,i,j,h=>by
  rw [List.mapIdx_cons]
  unfold Instr.findNow
  by_cases q:x=k
  ·have hx:(bs k == bs x)=true:=by rw [bs_beq,beq_iff_eq]; exact q.symm
   simp only [entK,Instr.sameNow,hx]
   exact ⟨_,rfl⟩
  ·have hx:(bs k == bs x)=false:=by rw [bs_beq,beq_eq_false_iff_ne]; exact fun e=>q e.symm
   have hl:k∈l:=by rcases List.mem_cons.1 h with e | e; exact absurd e.symm q; exact e
   simp only [entK,Instr.sameNow,hx]
   obtain ⟨m,hm⟩:=findK_some k l (i+1) (j+1) hl
   refine ⟨m,?_⟩
   simp only [entK] at hm
   rw [← hm]
   congr 1
   apply List.ext_getElem?
   intro m
   simp [List.getElem?_mapIdx]
   cases l[m]? <;> simp; omega
theorem entsK_list (l:List Bs):(entsK l).toList=l.mapIdx fun i' x=>entK x (i'+0):=by simp [entsK]
theorem runK_none (w:World) (l:List Bs) (k:Bs) (hk:k ∉ l):(Instr.findKey 9 (.string (bs k)) (entsK l).toList).run Tryz.prog w=.ok none w:=by
 unfold Instr.findKey
 simp only [Sem.run_bind,run_underlying Tryz.underlying9,Result.andThen,entsK_list,findK_none k l 0 0 hk]
 simp [Sem.run_pure]
theorem runK_some (w:World) (l:List Bs) (k:Bs) (hk:k∈l):∃ m,(Instr.findKey 9 (.string (bs k)) (entsK l).toList).run Tryz.prog w=.ok (some (m,.bool true)) w:=by
 obtain ⟨m,hm⟩:=findK_some k l 0 0 hk
 refine ⟨m,?_⟩
 unfold Instr.findKey
 simp only [Sem.run_bind,run_underlying Tryz.underlying9,Result.andThen,entsK_list,hm]
 simp [Sem.run_pure]
theorem MapK_kept {w w':World} {m:Nat} {ks:List Bs} (h:MapK w m ks) (k:Kept w w'):MapK w' m ks:=h.only (Only.of_kept (S:=fun _=>False) k) (fun q=>q)
theorem MapK_made (w:World):MapK (w.alloc (.map #[] 0)) w.heap.size []:=heap_alloc_new w _
theorem zero_bool (w:World):(zeroValue 4).run Tryz.prog w=.ok (.bool false) w:=by kernel_rfl
theorem lookK (w:World) (m:Nat) (ks:List Bs) (k:Bs) (h:MapK w m ks):(Instr.lookup 73 (.map (some m)) (.string (bs k)) false).run Tryz.prog w=.ok (.bool (ks.contains k)) w:=by
 have hu:Tryz.prog.underlying 73=some (.map 9 4):=Tryz.underlying73
 unfold MapK at h
 unfold Instr.lookup
 simp only [Sem.run_bind,run_underlying hu,Result.andThen]
 by_cases hk:k∈ks
 ·obtain ⟨j,hf⟩:=runK_some w ks k hk
  have hc:ks.contains k=true:=by simpa using hk
  simp only [getObj,Sem.run_bind,Sem.run,h,Result.andThen,Sem.run_pure,run_check,hf,hc]
  simp [Sem.run_pure]
 ·have hf:=runK_none w ks k hk
  have hc:ks.contains k=false:=by simpa using hk
  simp only [getObj,Sem.run_bind,Sem.run,h,Result.andThen,Sem.run_pure,run_check,hf,hc,zero_bool]
  simp [Sem.run_pure]
theorem insK (w:World) (m:Nat) (ks:List Bs) (k:Bs) (h:MapK w m ks) (hk:k ∉ ks):(Instr.mapUpdate 73 (.map (some m)) (.string (bs k)) (.bool true)).run Tryz.prog w=.ok () (putK w m (ks ++ [k])):=by
 have hu:Tryz.prog.underlying 73=some (.map 9 4):=Tryz.underlying73
 unfold MapK at h
 unfold Instr.mapUpdate
 simp only [Sem.run_bind,run_underlying hu,Result.andThen]
 simp only [getObj,Sem.run_bind,Sem.run,h,Result.andThen,Sem.run_pure,run_check,runK_none _ ks k hk,setObj]
 refine congrArg (Result.ok ()) ?_
 unfold putK
 rw [entsK_snoc]
 simp [entK]
theorem MapK.kept {w w':World} {m:Nat} {ks:List Bs} (h:MapK w m ks) (k:Kept w w'):MapK w' m ks:=h.only (Only.of_kept (S:=fun _=>False) k) (fun q=>q)
end Go.Proofs.YtmcoomlkbgiboaaGreatDoor

/- checkEntries of style. Conditions: lengths. -/
set_option linter.all false
namespace Go.Proofs.YtmcoomlkbgiboaaGreatDoor
open Go.RowKit

/-- The first error of the entries, after some keys. -/
def entA:List Bs→List Pr→Int
 | ks,[]=>if ks.contains [42]=true then 0 else 8
 | ks,p :: ps=>if (p.1 == [42])=false∧smallB p.1 20 []=false then 6 else if ks.contains p.1=true then 7 else if splE p.2≠0 then splE p.2 else entA (ks ++ [p.1]) ps
def entE (ps:List Pr):Int:=entA [] ps
theorem MapK.made (w:World):MapK (w.alloc (.map #[] 0)) w.heap.size []:=heap_alloc_new w _
theorem entA_end (ks:List Bs):entA ks []=if ks.contains [42]=true then 0 else 8:=rfl
theorem entA_cons (ks:List Bs) (p:Pr) (ps:List Pr):entA ks (p :: ps)=if (p.1 == [42])=false∧smallB p.1 20 []=false then 6 else if ks.contains p.1=true then 7 else if splE p.2≠0 then splE p.2 else entA (ks ++ [p.1]) ps:=rfl
set_option maxRecDepth 100000 in
set_option maxHeartbeats 6400000 in
theorem sents_any (v:Value) (ps:List Pr) (w:World) (hg:Gnd w) (hv:Prs w v ps) (hn:ps.length≤100000) (hl:∀ p∈ps,p.1.length≤100000∧p.2.length≤100000):Calls Tryz.prog 86 #[v] w fun e w'=>e=.returned (.int .i64 (entE ps))∧Kept w w':=by
 have HG:=Lib.hid hg
 have HV:=Lib.hid hv
 have HLL:=Lib.hid hl
 obtain ⟨a,c,rfl,hc⟩:=hv.form
 have H0:Hid (entE ps=entA [] (ps.drop 0)):=rfl
 have mk:=fun w=>run_makeMap (P:=Tryz.prog) 73 w
 generalize entE ps=R at *
 clear hv hl hg
 go_enter Tryz.func86,Tryz.ntmps86
 go_wp2_with fail
 have HM0:=Lib.hid (MapK.made w)
 have HK0:=Lib.hid (kept_alloc w (.map #[] 0))
 generalize w.alloc (.map #[] 0)=w0 at *
 obtain ⟨M,HMM⟩:∃ M,Hid (w.heap.size=M):=⟨_,rfl⟩
 have hMz:w.heap.size≤M:=by rw [HMM.out]; exact Nat.le_refl _
 rw [HMM.out] at HM0 ⊢
 go_loopw [11] (fun i wr=>∃ (k:Nat) (ks:List Bs),k≤ps.length∧i=.int .i64 k∧Hid (R=entA ks (ps.drop k))∧Hid (MapK wr M ks)∧Hid (Kept w wr)) (fun i _=>ps.length - (intOf i).toNat)
 case atStart=>exact ⟨0,[],Nat.zero_le _,rfl,H0.out,HM0.out,HK0.out⟩
 case round =>
  obtain ⟨k,ks,hk,rfl,HA,HM,HKR⟩:=hrel
  by_cases hlt:k<ps.length
  ·obtain ⟨p,hx⟩:∃ x,ps[k]? = some x:=⟨_,List.getElem?_eq_getElem hlt⟩
   obtain ⟨g,o,rfl,hg,d0,d1,-,-⟩:=(HV.out.kept HKR.out).cell_of k p hx
   obtain ⟨hl1,hl2⟩:=HLL.out p (List.mem_of_getElem? hx)
   have HD:Hid (ps.drop k=p :: ps.drop (k+1)):=by
    show _=_
    obtain ⟨hk',rfl⟩:=List.getElem?_eq_some_iff.1 hx
    exact List.drop_eq_getElem_cons hk'
   rw [HD.out,entA_cons] at HA
   obtain ⟨x,y⟩:=p
   simp only at d0 d1 hl1 hl2 HA
   have HS:=Lib.hid (fun w=>ssmall_any x [] 20 w (by omega))
   have HSP:=Lib.hid (fun w h=>ssplit_any y w h hl2)
   unfold SplitP at HSP
   have HM1:=Lib.hid (HM.out.kept (kept_alloc wr (.cells #[.string (bs x),.string (bs y)] 62)))
   have HK1:=Lib.hid (HKR.out.trans (kept_alloc wr (.cells #[.string (bs x),.string (bs y)] 62)))
   have HB1:=Lib.hid (Blk.new wr 62 #[.string (bs x),.string (bs y)])
   have HMR:=HM
   clear hx HD HM HKR
   by_cases hb:(x == [42])=false∧smallB x 20 []=false
   ·rw [if_pos hb] at HA
    obtain ⟨q1,q2⟩:=hb
    rw [q2] at HS
    clear q2
    go_wp2_with fail
    refine (HS.out _).mono ?_
    rintro e w2 ⟨rfl,hk2⟩
    have HK2:=Lib.hid (HK1.out.trans hk2)
    clear hk2
    go_wp2_with fail
    go_ret
    exact ⟨ret_int HA.out.symm,HK2.out⟩
   rw [if_neg hb] at HA
   have hb2:(x == [42])=true∨((x == [42])=false∧smallB x 20 []=true):=by
    cases e1:(x == [42])
    ·cases e2:smallB x 20 []
     ·exact absurd ⟨e1,e2⟩ hb
     ·exact .inr ⟨rfl,rfl⟩
    ·exact .inl rfl
   clear hb
   have HBM:Hid (M<wr.heap.size):=HMR.out.lt
   rcases hb2 with hb1 | ⟨hb1,hb3⟩
   ·obtain rfl:x=[42]:=by simpa using hb1
    have HMW:=HM1
    have HKW:=HK1
    have HBW:=HB1
    clear hb1 HS HM1 HK1 HB1
    have lk:=lookK (wr.alloc (.cells #[.string (bs [42]),.string (bs y)] 62)) M ks [42] HMW.out
    cases hct:ks.contains [42] with
    | true =>
     rw [hct] at lk HA
     rw [if_pos rfl] at HA
     clear hct
     go_wp2_with fail
     go_ret
     exact ⟨ret_int HA.out.symm,HKW.out⟩
    | false =>
     have hnm:[42] ∉ ks:=by
      intro q
      rw [← List.contains_iff_mem,hct] at q
      cases q
     rw [hct] at lk HA
     rw [if_neg (by simp)] at HA
     have up:=insK (wr.alloc (.cells #[.string (bs [42]),.string (bs y)] 62)) M ks [42] HMW.out hnm
     have hMlt:=HMW.out.lt
     have hne:¬ wr.heap.size=M:=by have:=HBM.out; omega
     have HM3:=Lib.hid (putK_map (wr.alloc (.cells #[.string (bs [42]),.string (bs y)] 62)) M (ks ++ [[42]]) hMlt)
     have HK3:=Lib.hid (only_kept HKW.out (putK_only (wr.alloc (.cells #[.string (bs [42]),.string (bs y)] 62)) M (ks ++ [[42]])) hMz)
     have HB3:=Lib.hid (HBW.out.onl (putK_only (wr.alloc (.cells #[.string (bs [42]),.string (bs y)] 62)) M (ks ++ [[42]])) hne)
     have v1:(putK (wr.alloc (.cells #[.string (bs [42]),.string (bs y)] 62)) M (ks ++ [[42]])).cell? ⟨wr.heap.size,1,none⟩=some (.string (bs y)):=HB3.out.cell 1 _ rfl
     have zv:=HB3.out.lt
     have HSY:=Lib.hid (HSP.out (putK (wr.alloc (.cells #[.string (bs [42]),.string (bs y)] 62)) M (ks ++ [[42]])) (HG.out.kept HK3.out))
     clear hct hnm hMlt
     by_cases h5:splE y=0
     case neg =>
      rw [if_pos h5] at HA
      generalize splE y=E at *
      have h5':(E == 0)=false:=by simpa using h5
      go_wp2_with fail
      refine HSY.out.mono ?_
      rintro e w4 ⟨v4,rfl,hp4,hk4⟩
      have HK4:=Lib.hid (HK3.out.trans hk4)
      clear hp4 hk4
      go_wp2_with fail
      go_ret
      exact ⟨ret_int HA.out.symm,HK4.out⟩
     rw [if_neg (by simpa using h5)] at HA
     rw [h5] at HSY
     go_wp2_with fail
     refine HSY.out.mono ?_
     rintro e w4 ⟨v4,rfl,hp4,hk4⟩
     have HK4:=Lib.hid (HK3.out.trans hk4)
     have HM4:=Lib.hid (HM3.out.kept hk4)
     obtain ⟨a4,c4,rfl,-⟩:=hp4.form
     clear hp4 hk4 v1 zv lk up
     go_wp2_with fail
     go_roundw
     case rel=>exact ⟨k+1,ks ++ [[42]],by omega,by go_num,HA.out,HM4.out,HK4.out⟩
     case measure=>simp [intOf]; omega
   ·rw [hb3] at HS
    clear hb3
    go_wp2_with fail
    refine (HS.out _).mono ?_
    rintro e w2 ⟨rfl,hk2⟩
    have HKW:=Lib.hid (HK1.out.trans hk2)
    have HMW:=Lib.hid (HM1.out.kept hk2)
    have HBW:=Lib.hid (HB1.out.kept hk2)
    have t0:w2.cell? ⟨wr.heap.size,0,none⟩=some (.string (bs x)):=HBW.out.cell 0 _ rfl
    have zt:=HBW.out.lt
    clear hk2 HK1 HM1 HB1 d0 d1 hg
    obtain ⟨B,HBB⟩:∃ B,Hid (wr.heap.size=B):=⟨_,rfl⟩
    rw [HBB.out] at HBW t0 zt HBM ⊢
    have lk:=lookK w2 M ks x HMW.out
    cases hct:ks.contains x with
    | true =>
     rw [hct] at lk HA
     rw [if_pos rfl] at HA
     clear hct
     go_wp2_with fail
     go_ret
     exact ⟨ret_int HA.out.symm,HKW.out⟩
    | false =>
     have hnm:x ∉ ks:=by
      intro q
      rw [← List.contains_iff_mem,hct] at q
      cases q
     rw [hct] at lk HA
     rw [if_neg (by simp)] at HA
     have up:=insK w2 M ks x HMW.out hnm
     have hMlt:=HMW.out.lt
     have hne:¬ B=M:=by have:=HBM.out; omega
     have HM3:=Lib.hid (putK_map w2 M (ks ++ [x]) hMlt)
     have HK3:=Lib.hid (only_kept HKW.out (putK_only w2 M (ks ++ [x])) hMz)
     have HB3:=Lib.hid (HBW.out.onl (putK_only w2 M (ks ++ [x])) hne)
     have v1:(putK w2 M (ks ++ [x])).cell? ⟨B,1,none⟩=some (.string (bs y)):=HB3.out.cell 1 _ rfl
     have zv:=HB3.out.lt
     have HSY:=Lib.hid (HSP.out (putK w2 M (ks ++ [x])) (HG.out.kept HK3.out))
     clear hct hnm hMlt
     by_cases h5:splE y=0
     case neg =>
      rw [if_pos h5] at HA
      generalize splE y=E at *
      have h5':(E == 0)=false:=by simpa using h5
      go_wp2_with fail
      refine HSY.out.mono ?_
      rintro e w4 ⟨v4,rfl,hp4,hk4⟩
      have HK4:=Lib.hid (HK3.out.trans hk4)
      clear hp4 hk4
      go_wp2_with fail
      go_ret
      exact ⟨ret_int HA.out.symm,HK4.out⟩
     rw [if_neg (by simpa using h5)] at HA
     rw [h5] at HSY
     go_wp2_with fail
     refine HSY.out.mono ?_
     rintro e w4 ⟨v4,rfl,hp4,hk4⟩
     have HK4:=Lib.hid (HK3.out.trans hk4)
     have HM4:=Lib.hid (HM3.out.kept hk4)
     obtain ⟨a4,c4,rfl,-⟩:=hp4.form
     clear hp4 hk4 v1 zv lk up
     go_wp2_with fail
     go_roundw
     case rel=>exact ⟨k+1,ks ++ [x],by omega,by go_num,HA.out,HM4.out,HK4.out⟩
     case measure=>simp [intOf]; omega
  ·obtain rfl:k=ps.length:=by omega
   rw [List.drop_of_length_le (Nat.le_refl _),entA_end] at HA
   have lk:=lookK wr M ks [42] HM.out
   cases hct:ks.contains [42] with
   | true =>
    rw [hct] at lk HA
    rw [if_pos rfl] at HA
    clear hct
    go_wp2_with fail
    go_ret
    exact ⟨ret_int HA.out.symm,HKR.out⟩
   | false =>
    rw [hct] at lk HA
    rw [if_neg (by simp)] at HA
    clear hct
    go_wp2_with fail
    go_ret
    exact ⟨ret_int HA.out.symm,HKR.out⟩
end Go.Proofs.YtmcoomlkbgiboaaGreatDoor

/- checkSort of style. Conditions: lengths. -/
set_option linter.all false
namespace Go.Proofs.YtmcoomlkbgiboaaGreatDoor
open Go.RowKit

def kAuthor:Bs:=[97,117,116,104,111,114]
def kYear:Bs:=[121,101,97,114]
def kTitle:Bs:=[116,105,116,108,101]
def kKey:Bs:=[107,101,121]
def srtK (x:Bs):Bool:=x == kAuthor || (x == kYear || (x == kTitle || x == kKey))
/-- Does a text occur twice? -/
def dupB (ws:List Bs):Bool:=(List.range ws.length).any fun i=>(ws.take i).contains (ws.getD i [])
/-- The error of the words of Sort. -/
def srtE (l:Bs):Int:=if l=[] then 0 else if (splitC 32 l).all srtK=false then 13 else if dupB (splitC 32 l)=true then 7 else 0
theorem dupB_hit {ws:List Bs} {i:Nat} (h:i<ws.length) (hc:(ws.take i).contains ws[i]=true):dupB ws=true:=by
 unfold dupB
 refine List.any_eq_true.2 ⟨i,by simpa using h,?_⟩
 rw [List.getD_eq_getElem?_getD,List.getElem?_eq_getElem h]; exact hc
theorem dupB_no {ws:List Bs} (h:∀ i (hi:i<ws.length),(ws.take i).contains ws[i]=false):dupB ws=false:=by
 unfold dupB
 rw [List.any_eq_false]
 intro i hi
 have hi':i<ws.length:=by simpa using hi
 rw [List.getD_eq_getElem?_getD,List.getElem?_eq_getElem hi']
 have:=h i hi'
 simp only [Option.getD_some]
 rw [this]; simp
theorem srt_cases {x:Bs} (h:srtK x=false):(x == kAuthor)=false∧(x == kYear)=false∧(x == kTitle)=false∧(x == kKey)=false:=by
 unfold srtK at h
 simp only [Bool.or_eq_false_iff] at h
 exact ⟨h.1,h.2.1,h.2.2.1,h.2.2.2⟩
theorem srt_some {x:Bs} (h:srtK x=true):x=kAuthor∨x=kYear∨x=kTitle∨x=kKey:=by
 unfold srtK at h
 simpa using h
theorem strs_fresh (w:World) (xs:List Bs):Strs (w.alloc (.cells (strCells xs).toArray 9)) (.slice (some ⟨w.heap.size,0,none⟩) xs.length xs.length) xs:=by
 refine ⟨_,_,rfl,Nat.le_refl _,fun _=>⟨w.heap.size,0,rfl,by simp,fun j x hx=>?_⟩⟩
 have hb:=Blk.new w 9 (strCells xs).toArray
 refine hb.cell (0+j) _ ?_
 rw [Nat.zero_add,List.getElem?_toArray]
 unfold strCells
 rw [List.getElem?_map,hx]; rfl
set_option maxRecDepth 100000 in
set_option maxHeartbeats 6400000 in
theorem ssort_any (l:Bs) (w:World) (hg:Gnd w) (hl:l.length≤100000):Calls Tryz.prog 83 #[.string (bs l)] w fun e w'=>e=.returned (.int .i64 (srtE l))∧Kept w w':=by
 by_cases h0:l=[]
 ·subst h0
  go_enter Tryz.func83,Tryz.ntmps83
  go_wp2_with fail
  go_ret
  exact ⟨rfl,Kept.refl _⟩
 have h0':(l == ([]:Bs))=false:=by simpa using h0
 have HE:Hid (srtE l=if (splitC 32 l).all srtK=false then 13 else if dupB (splitC 32 l)=true then 7 else 0):=by
  show _=_
  unfold srtE
  rw [if_neg h0]
 have HSP:=Lib.hid (split_any l 32 w hg (by omega))
 have hwl:(splitC 32 l).length≤100001:=by
  rw [splitC_length]
  have:=List.count_le_length (a:=(32:UInt8)) (l:=l)
  omega
 clear hg
 generalize srtE l=R at *
 generalize splitC 32 l=ws at *
 go_enter Tryz.func83,Tryz.ntmps83
 go_wp2_with fail
 refine HSP.out.mono ?_
 rintro e w1 ⟨rfl,rfl⟩
 have HK1:=Lib.hid (kept_alloc w (.cells (strCells ws).toArray 9))
 have HS1:=Lib.hid (strs_fresh w ws)
 generalize w.alloc (.cells (strCells ws).toArray 9)=w1 at *
 generalize w.heap.size=B at *
 clear HSP
 go_wp2_with fail
 go_loopw [16] (fun i wr=>∃ k:Nat,k≤ws.length∧i=.int .i64 k∧Hid (∀ j (hj:j<ws.length),j<k→srtK ws[j]=true)∧Hid (Kept w1 wr)) (fun i _=>ws.length - (intOf i).toNat)
 case atStart=>exact ⟨0,Nat.zero_le _,rfl,fun j hj h=>by omega,Kept.refl _⟩
 case round =>
  obtain ⟨k,hk,rfl,HN,HKR⟩:=hrel
  by_cases hlt:k<ws.length
  ·have hx:=List.getElem?_eq_getElem hlt
   obtain ⟨g,o,he,hg,d0,-,-⟩:=(HS1.out.kept HKR.out).cell_of k _ hx
   cases he
   rw [Nat.zero_add] at d0
   have HNX:Hid (srtK ws[k]=true→∀ j (hj:j<ws.length),j<k+1→srtK ws[j]=true):=by
    intro h j hj hjk
    rcases Nat.lt_or_ge j k with q | q
    ·exact HN.out j hj q
    ·obtain rfl:j=k:=by omega
     exact h
   have HBAD:Hid (srtK ws[k]=false→R=13):=by
    intro h
    rw [HE.out,if_pos]
    exact List.all_eq_false.2 ⟨ws[k],List.getElem_mem hlt,by rw [h]; simp⟩
   clear hx
   generalize ws[k]=x at *
   cases hs:srtK x with
   | false =>
    have HR:=Lib.hid (HBAD.out hs)
    obtain ⟨c1,c2,c3,c4⟩:=srt_cases hs
    clear hs
    unfold kAuthor at c1
    unfold kYear at c2
    unfold kTitle at c3
    unfold kKey at c4
    go_wp2_with fail
    go_ret
    exact ⟨ret_int HR.out.symm,HK1.out.trans HKR.out⟩
   | true =>
    have HNO:=Lib.hid (HNX.out hs)
    have hc:=srt_some hs
    clear hs HBAD HNX HN
    rcases hc with rfl | rfl | rfl | rfl
    all_goals
     (first | unfold kAuthor at d0 | unfold kYear at d0 | unfold kTitle at d0 | unfold kKey at d0)
     go_wp2_with fail
     go_roundw
     case rel=>exact ⟨k+1,by omega,by go_num,HNO.out,HKR.out⟩
     case measure=>simp [intOf]; omega
  ·obtain rfl:k=ws.length:=by omega
   have HE2:Hid (R=if dupB ws=true then 7 else 0):=by
    show _=_
    rw [HE.out,if_neg]
    rw [Bool.not_eq_false]
    refine List.all_eq_true.2 (fun b hb=>?_)
    obtain ⟨j,hj,e⟩:=List.getElem_of_mem hb
    rw [← e]; exact HN.out j hj hj
   have HD1:Hid (∀ i (hi:i<ws.length),(ws.take i).contains ws[i]=true→R=7):=fun i hi h=>by rw [HE2.out,if_pos (dupB_hit hi h)]
   have HD2:Hid ((∀ i (hi:i<ws.length),(ws.take i).contains ws[i]=false)→R=0):=fun h=>by rw [HE2.out,dupB_no h]; rfl
   have HKS:=Lib.hid HKR.out
   clear HE HE2 HN HKR hlt
   go_wp2_with fail
   go_loopw [29] (fun i wr=>∃ k:Nat,k≤ws.length∧i=.int .i64 k∧Hid (∀ j (hj:j<ws.length),j<k→(ws.take j).contains ws[j]=false)∧Hid (Kept w1 wr)) (fun i _=>ws.length - (intOf i).toNat)
   case atStart=>exact ⟨0,Nat.zero_le _,rfl,fun j hj h=>by omega,HKS.out⟩
   case round =>
    clear HKS
    obtain ⟨k,hk,rfl,HN,HKR⟩:=hrel
    by_cases hlt:k<ws.length
    ·have hx:=List.getElem?_eq_getElem hlt
     obtain ⟨g,o,he,hg,d0,-,-⟩:=(HS1.out.kept HKR.out).cell_of k _ hx
     cases he
     rw [Nat.zero_add] at d0
     have HNX:Hid ((ws.take k).contains ws[k]=false→∀ j (hj:j<ws.length),j<k+1→(ws.take j).contains ws[j]=false):=by
      intro h j hj hjk
      rcases Nat.lt_or_ge j k with q | q
      ·exact HN.out j hj q
      ·obtain rfl:j=k:=by omega
       exact h
     have HYES:=Lib.hid (HD1.out k hlt)
     have HHIT:Hid (∀ i (hi:i<ws.length),i<k→ws[i]=ws[k]→(ws.take k).contains ws[k]=true):=fun i hi hik e=>by
      rw [List.contains_iff_mem,← e]
      exact List.mem_take_iff_getElem.2 ⟨i,by omega,rfl⟩
     have HMISS:Hid ((∀ i (hi:i<ws.length),i<k→ws[i]≠ws[k])→(ws.take k).contains ws[k]=false):=fun h=>by
      rw [Bool.eq_false_iff]
      intro q
      rw [List.contains_iff_mem] at q
      obtain ⟨i,hi,e⟩:=List.mem_take_iff_getElem.1 q
      exact h i (by omega) (by omega) e
     have hk1:(k:Int)≤(ws.length:Int):=by omega
     have HKS:=Lib.hid HKR.out
     clear hx HN HKR
     generalize ws[k]=x at *
     go_wp2_with fail
     go_loopw [38] (fun i wr=>∃ m:Nat,m≤k∧i=.int .i64 m∧Hid (∀ j (hj:j<ws.length),j<m→ws[j]≠x)∧Hid (Kept w1 wr)) (fun i _=>k - (intOf i).toNat)
     case atStart=>exact ⟨0,Nat.zero_le _,rfl,fun j hj h=>by omega,HKS.out⟩
     case round =>
      clear HKS hg d0
      obtain ⟨m,hm,rfl,HM,HKR⟩:=hrel
      by_cases hlt2:m<k
      ·have hml:m<ws.length:=by omega
       have hy:=List.getElem?_eq_getElem hml
       obtain ⟨g,o,he,hg,d0,-,-⟩:=(HS1.out.kept HKR.out).cell_of m _ hy
       cases he
       rw [Nat.zero_add] at d0
       have HH:=Lib.hid (HHIT.out m hml hlt2)
       have HMX:Hid (ws[m]≠x→∀ j (hj:j<ws.length),j<m+1→ws[j]≠x):=by
        intro h j hj hjk
        rcases Nat.lt_or_ge j m with q | q
        ·exact HM.out j hj q
        ·obtain rfl:j=m:=by omega
         exact h
       clear hy HM
       generalize ws[m]=y at *
       by_cases hxy:y=x
       ·have HR:=Lib.hid (HYES.out (HH.out hxy))
        subst hxy
        go_wp2_with fail
        go_ret
        exact ⟨ret_int HR.out.symm,HK1.out.trans HKR.out⟩
       ·have hxy':(y == x)=false:=by simpa using hxy
        have HNO:=Lib.hid (HMX.out hxy)
        clear hxy
        go_wp2_with fail
        go_roundw
        case rel=>exact ⟨m+1,by omega,by go_num,HNO.out,HKR.out⟩
        case measure=>simp [intOf]; omega
      ·obtain rfl:m=k:=by omega
       have HNO:=Lib.hid (HNX.out (HMISS.out (fun i hi hik=>HM.out i hi hik)))
       clear HM
       go_wp2_with fail
       go_roundw
       case rel=>exact ⟨m+1,by omega,by go_num,HNO.out,HKR.out⟩
       case measure=>simp [intOf]; omega
    ·obtain rfl:k=ws.length:=by omega
     have HR:=Lib.hid (HD2.out (fun i hi=>HN.out i hi hi))
     go_wp2_with fail
     go_ret
     exact ⟨ret_int HR.out.symm,HK1.out.trans HKR.out⟩
end Go.Proofs.YtmcoomlkbgiboaaGreatDoor
