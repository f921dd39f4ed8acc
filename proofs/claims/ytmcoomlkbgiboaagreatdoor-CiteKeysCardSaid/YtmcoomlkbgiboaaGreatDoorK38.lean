/- Maps in memory whose keys are pairs of texts: look-up, a key that is new, a key that is put again. No condition. -/
import Derived.Test.YtmcoomlkbgiboaaGreatDoorK01
import Derived.Test.YtmcoomlkbgiboaaGreatDoorK02
import Derived.Test.YtmcoomlkbgiboaaGreatDoorK15
import Derived.Test.YtmcoomlkbgiboaaGreatDoorK32
import Derived.Test.YtmcoomlkbgiboaaGreatDoorK13
import Derived.Test.YtmcoomlkbgiboaaGreatDoorK25
import Derived.Test.YtmcoomlkbgiboaaGreatDoorK10
import Derived.Test.YtmcoomlkbgiboaaGreatDoorK14
import Derived.Test.YtmcoomlkbgiboaaGreatDoorK28
import Derived.Test.YtmcoomlkbgiboaaGreatDoorK33
import Derived.Test.YtmcoomlkbgiboaaGreatDoorK04
import Derived.Test.YtmcoomlkbgiboaaGreatDoorK20
import Derived.Laws.StructEq

set_option linter.all false
namespace Go.Proofs.YtmcoomlkbgiboaaGreatDoor
open Go.RowKit

abbrev KyP:=Bs × Bs
def kyP (k:KyP):Value:=.agg #[.string (bs k.1),.string (bs k.2)]
def entQ (e:KyP × Value) (i:Nat):MapEntry:={ key:=kyP e.1,val:=e.2,born:=i }
def entsQ (es:List (KyP × Value)):Array MapEntry:=(es.mapIdx fun i e=>entQ e i).toArray
/-- Block m is the map of the entries es. -/
def MapQ (w:World) (m:Nat) (es:List (KyP × Value)):Prop:=w.heap[m]? = some (.map (entsQ es) es.length)
/-- The world with other entries in block m. -/
def putQ (w:World) (m:Nat) (es:List (KyP × Value)):World:={ w with heap:=w.heap.setIfInBounds m (.map (entsQ es) es.length) }
def getQ (es:List (KyP × Value)) (k:KyP):Option Value:=(es.find? fun e=>e.1 == k).map (·.2)
theorem MapQ.lt {w:World} {m:Nat} {es:List (KyP × Value)} (h:MapQ w m es):m<w.heap.size:=by
 rcases Nat.lt_or_ge m w.heap.size with q | q
 ·exact q
 ·unfold MapQ at h; rw [Array.getElem?_eq_none q] at h; cases h
theorem MapQ.only {S:Nat→Prop} {w w':World} {m:Nat} {es:List (KyP × Value)} (h:MapQ w m es) (k:Only S w w') (hs:¬ S m):MapQ w' m es:=by
 unfold MapQ at h ⊢; rw [k.block m (MapQ.lt h) hs]; exact h
theorem MapQ.kept {w w':World} {m:Nat} {es:List (KyP × Value)} (h:MapQ w m es) (k:Kept w w'):MapQ w' m es:=h.only (Only.of_kept (S:=fun _=>False) k) (fun q=>q)
theorem MapQ.made (w:World):MapQ (w.alloc (.map #[] 0)) w.heap.size []:=heap_alloc_new w _
theorem putQ_map (w:World) (m:Nat) (es:List (KyP × Value)) (hm:m<w.heap.size):MapQ (putQ w m es) m es:=by
 unfold MapQ putQ; simp [hm]
theorem putQ_only (w:World) (m:Nat) (es:List (KyP × Value)):Only (fun i=>i=m) w (putQ w m es) :=
 ⟨rfl,rfl,rfl,by simp [putQ],fun k hk hs=>by simp [putQ,Array.getElem?_setIfInBounds,Ne.symm hs]⟩
theorem putQ_size (w:World) (m:Nat) (es:List (KyP × Value)):(putQ w m es).heap.size=w.heap.size:=by simp [putQ]
theorem entsQ_snoc (es:List (KyP × Value)) (e:KyP × Value):entsQ (es ++ [e])=(entsQ es).push (entQ e es.length):=by
 unfold entsQ; rw [List.mapIdx_append]; simp
theorem entsQ_list (es:List (KyP × Value)):(entsQ es).toList=es.mapIdx fun i e=>entQ e (i+0):=by simp [entsQ]
theorem getQ_cons (e:KyP × Value) (es:List (KyP × Value)) (k:KyP):getQ (e :: es) k=if e.1=k then some e.2 else getQ es k:=by
 unfold getQ
 rw [List.find?_cons]
 by_cases h:e.1=k
 ·rw [if_pos h]; simp [h]
 ·rw [if_neg h]
  have:(e.1 == k)=false:=by simpa using h
  rw [this]
theorem getQ_snoc {es:List (KyP × Value)} {k:KyP} (h:getQ es k=none) (v:Value) (k':KyP):getQ (es ++ [(k,v)]) k'=if k'=k then some v else getQ es k':=by
 induction es with
 | nil =>
  rw [List.nil_append,getQ_cons]
  by_cases q:k'=k
  ·rw [if_pos q,if_pos q.symm]
  ·rw [if_neg q,if_neg (fun e=>q e.symm)]
 | cons e es ih =>
  rw [getQ_cons] at h
  by_cases q:e.1=k
  ·rw [if_pos q] at h; cases h
  ·rw [if_neg q] at h
   rw [List.cons_append,getQ_cons,getQ_cons,ih h]
   by_cases q2:e.1=k'
   ·rw [if_pos q2,if_pos q2,if_neg (fun e'=>q (by rw [q2,e']))]
   ·rw [if_neg q2,if_neg q2]
section
variable {P:Program} {tm ti te:TypeId} {fs:Array Field}
theorem findQ (heq:∀ (a b:KyP) (w:World),(Op.equal ti (kyP a) (kyP b)).run P w=.ok (a == b) w) (w:World) (k:KyP):∀ (l:List (KyP × Value)) (i j:Nat),
  (getQ l k=none∧(Instr.findAsking ti (kyP k) (l.mapIdx fun i' e=>entQ e (i'+i)) j).run P w=.ok none w) ∨
  (∃ (n:Nat) (v:Value),getQ l k=some v∧l[n]? = some (k,v)∧(Instr.findAsking ti (kyP k) (l.mapIdx fun i' e=>entQ e (i'+i)) j).run P w=.ok (some (n+j,v)) w∧∀ u k',getQ (l.set n (k,u)) k'=if k'=k then some u else getQ l k')
 | [],_,_=>.inl ⟨rfl,by simp [Instr.findAsking,Sem.run_pure]⟩
 | e :: l,i,j=>by
  rw [List.mapIdx_cons,getQ_cons]
  by_cases h:e.1=k
  ·right
   have hx:(k == e.1)=true:=by rw [beq_iff_eq]; exact h.symm
   refine ⟨0,e.2,by rw [if_pos h],by rw [← h]; rfl,?_,fun u k'=>?_⟩
   ·simp [Instr.findAsking,entQ,heq,hx,Sem.run_pure]
   ·rw [List.set_cons_zero,getQ_cons,getQ_cons]
    by_cases q:k'=k
    ·rw [if_pos q,if_pos q.symm]
    ·rw [if_neg q,if_neg (fun e=>q e.symm),if_neg (fun e'=>q (by rw [← e',h]))]
  ·have hx:(k == e.1)=false:=by rw [beq_eq_false_iff_ne]; exact fun q=>h q.symm
   have hm:(l.mapIdx fun i' x=>entQ x (i'+1+i))=l.mapIdx fun i' x=>entQ x (i'+(i+1)):=by
    congr 1; funext a b; congr 1; omega
   rw [if_neg h,hm]
   have hstep:∀ es,(Instr.findAsking ti (kyP k) (entQ e (0+i) :: es) j).run P w=(Instr.findAsking ti (kyP k) es (j+1)).run P w:=fun es=>by
    simp [Instr.findAsking,entQ,heq,hx]
   rw [hstep]
   rcases findQ heq w k l (i+1) (j+1) with ⟨g1,g2⟩ | ⟨n,v,g1,g2,g3,g4⟩
   ·left
    exact ⟨g1,g2⟩
   ·right
    refine ⟨n+1,v,g1,by simpa using g2,by rw [g3]; congr 3; omega,fun u k'=>?_⟩
    rw [List.set_cons_succ,getQ_cons,getQ_cons,g4]
    by_cases q:e.1=k'
    ·rw [if_pos q,if_pos q,if_neg (fun e'=>h (by rw [q,e']))]
    ·rw [if_neg q,if_neg q]
/-- What the laws ask of the keys' type. -/
structure KeyP (P:Program) (tm ti te:TypeId) (fs:Array Field):Prop where
 map:P.underlying tm=some (.map ti te)
 str:P.underlying ti=some (.struct fs)
 eq:∀ (a b:KyP) (w:World),(Op.equal ti (kyP a) (kyP b)).run P w=.ok (a == b) w
 chk:∀ (e:Bool) (a:KyP) (w:World),(Instr.checkKey e 10000 ti (kyP a)).run P w=.ok () w
 stay:∀ (a:KyP) (w:World),(Instr.keyThatStays (kyP a) (kyP a)).run P w=.ok (kyP a) w
theorem runQ (H:KeyP P tm ti te fs) (w:World) (es:List (KyP × Value)) (k:KyP) :
  (getQ es k=none∧(Instr.findKey ti (kyP k) (entsQ es).toList).run P w=.ok none w) ∨
  (∃ n v,getQ es k=some v∧es[n]? = some (k,v)∧(Instr.findKey ti (kyP k) (entsQ es).toList).run P w=.ok (some (n,v)) w∧∀ u k',getQ (es.set n (k,u)) k'=if k'=k then some u else getQ es k'):=by
 have hrun:(Instr.findKey ti (kyP k) (entsQ es).toList).run P w=(Instr.findAsking ti (kyP k) (entsQ es).toList 0).run P w:=by
  unfold Instr.findKey
  simp only [Sem.run_bind,run_underlying H.str,Result.andThen]
  cases h:(entsQ es).toList with
  | nil=>simp [Instr.findNow,Instr.findAsking,Sem.run_pure]
  | cons e l =>
   have:Instr.findNow (.struct fs) (kyP k) (e :: l) 0=none:=by
    unfold Instr.findNow Instr.sameNow; rfl
   rw [this]
 rw [hrun,entsQ_list]
 rcases findQ H.eq w k es 0 0 with ⟨g1,g2⟩ | ⟨n,v,g1,g2,g3,g4⟩
 ·left
  exact ⟨g1,g2⟩
 ·right
  exact ⟨n,v,g1,g2,g3,g4⟩
theorem lookQ (H:KeyP P tm ti te fs) (w:World) (m:Nat) (es:List (KyP × Value)) (k:KyP) (z:Value) (hz:(zeroValue te).run P w=.ok z w) (h:MapQ w m es) :
  (Instr.lookup tm (.map (some m)) (kyP k) false).run P w=.ok ((getQ es k).getD z) w:=by
 unfold MapQ at h
 unfold Instr.lookup
 simp only [Sem.run_bind,run_underlying H.map,Result.andThen]
 rcases runQ H w es k with ⟨g1,g2⟩ | ⟨n,v,g1,_,g3,_⟩
 ·simp only [getObj,Sem.run_bind,Sem.run,h,Result.andThen,Sem.run_pure,H.chk,g2,g1,hz]
  simp [Sem.run_pure]
 ·simp only [getObj,Sem.run_bind,Sem.run,h,Result.andThen,Sem.run_pure,H.chk,g3,g1]
  simp [Sem.run_pure]
/-- The entry of a key, made if there is none. -/
theorem entryQ (H:KeyP P tm ti te fs) (w:World) (m:Nat) (es:List (KyP × Value)) (k:KyP) (z:Value) (hz:∀ w,(zeroValue te).run P w=.ok z w) (h:MapQ w m es) :
  ∃ es' n,es'[n]? = some (k,(getQ es k).getD z)∧(∀ u k',getQ (es'.set n (k,u)) k'=if k'=k then some u else getQ es k')∧(∀ k',(getQ es' k').getD z=(getQ es k').getD z) ∧
   (Instr.mapEntry tm (.map (some m)) (kyP k)).run P w=.ok (.tuple #[(getQ es k).getD z,.int .i64 (n:Nat)]) (putQ w m es'):=by
 unfold MapQ at h
 rcases runQ H w es k with ⟨g1,g2⟩ | ⟨n,v,g1,g2,g3,g4⟩
 ·refine ⟨es ++ [(k,z)],es.length,by rw [g1]; simp,fun u k'=>?_,fun k'=>?_,?_⟩
  ·have e:(es ++ [(k,z)]).set es.length (k,u)=es ++ [(k,u)]:=by simp
   rw [e,getQ_snoc g1]
  ·rw [getQ_snoc g1]
   by_cases q:k'=k
   ·rw [if_pos q,q,g1]; rfl
   ·rw [if_neg q]
  ·unfold Instr.mapEntry
   simp only [Sem.run_bind,run_underlying H.map,Result.andThen]
   simp only [getObj,Sem.run_bind,Sem.run,h,Result.andThen,Sem.run_pure,H.chk,g2,hz,setObj]
   have e:putQ w m (es ++ [(k,z)])={ w with heap:=w.heap.setIfInBounds m (.map ((entsQ es).push { key:=kyP k,val:=z,born:=es.length }) (es.length+1)) }:=by
    unfold putQ
    rw [entsQ_snoc]; simp [entQ]
   rw [e,g1]
   simp [Sem.run_pure,goInt]
 ·refine ⟨es,n,by rw [g1]; exact g2,g4,fun _=>rfl,?_⟩
  unfold Instr.mapEntry
  simp only [Sem.run_bind,run_underlying H.map,Result.andThen]
  have e1:(entsQ es)[n]? = some (entQ (k,v) n):=by unfold entsQ; simp [g2]
  simp only [getObj,Sem.run_bind,Sem.run,h,Result.andThen,Sem.run_pure,H.chk,g3,setObj,e1,Option.map_some,Option.getD_some,entQ,H.stay,g1]
  have e2:((entsQ es).modify n fun e=>{ e with key:=kyP k })=entsQ es:=by
   apply Array.ext_getElem?
   intro i
   rw [Array.getElem?_modify]
   by_cases q:n=i
   ·subst q
    rw [if_pos rfl,e1]
    simp [entQ]
   ·rw [if_neg q]
  rw [e2]
  simp [Sem.run_pure,goInt,putQ]
/-- A value goes into an entry. -/
theorem storeQ (w:World) (m:Nat) (es:List (KyP × Value)) (n:Nat) (k:KyP) (v0 u:Value) (h:MapQ w m es) (hn:es[n]? = some (k,v0)):(Instr.entryStore tm (.map (some m)) (.int .i64 (n:Nat)) u).run P w=.ok () (putQ w m (es.set n (k,u))):=by
 unfold MapQ at h
 unfold Instr.entryStore
 have hb:n<(entsQ es).size:=by unfold entsQ; simp; exact (List.getElem?_eq_some_iff.1 hn).1
 have hbn:∀ i (hi:i<(entsQ es).size),(entsQ es)[i].born=i:=fun i hi=>by unfold entsQ; simp [entQ]
 have hf:(entsQ es).findIdx? (fun e=>(e.born:Int) == ((n:Nat):Int))=some n:=by
  rw [Array.findIdx?_eq_some_iff_getElem]
  refine ⟨hb,by rw [hbn n hb]; simp,fun j hj=>?_⟩
  rw [hbn j (by omega)]
  simp; omega
 simp only [getObj,Sem.run_bind,Sem.run,h,Result.andThen,Sem.run_pure,asInt,asIntOf,hf,setObj]
 refine congrArg (Result.ok ()) ?_
 unfold putQ
 have e1:(entsQ es)[n]? = some (entQ (k,v0) n):=by unfold entsQ; simp [hn]
 have e2:((entsQ es).modify n fun e=>{ e with val:=u })=entsQ (es.set n (k,u)):=by
  apply Array.ext_getElem?
  intro i
  rw [Array.getElem?_modify]
  by_cases q:n=i
  ·subst q
   rw [if_pos rfl,e1]
   unfold entsQ
   have hn':=(List.getElem?_eq_some_iff.1 hn).1
   simp [entQ,hn']
  ·rw [if_neg q]
   unfold entsQ
   simp [List.getElem?_set,q]
 have e3:(es.set n (k,u)).length=es.length:=by simp
 rw [e3,e2]
end
theorem same_kyP (a:KyP) (w:World) (P:Program):(Instr.keyThatStays (kyP a) (kyP a)).run P w=.ok (kyP a) w:=by
 unfold Instr.keyThatStays
 have e:Instr.sameBits 10000 (kyP a) (kyP a)=true:=by
  have h1:∀ k:ByteArray,(k == k)=true:=fun k=>by
   show (k.data == k.data)=true
   exact beq_self_eq_true _
  simp [kyP,Instr.sameBits,h1]
 rw [e]; rfl
end Go.Proofs.YtmcoomlkbgiboaaGreatDoor

/- cite.Suffixes: its memory. No condition. -/
set_option linter.all false
namespace Go.Proofs.YtmcoomlkbgiboaaGreatDoor
open Go.RowKit

theorem OutG.strs0 {base:Nat} {w:World} {v:Value} {n:Nat} (h:w.ownsRow base 9 1 v n (List.replicate n (.string (bs [])))):OutG StrK 1 (fun _=>False) base 9 w v (List.replicate n []):=by
 refine ⟨List.replicate n [.string (bs [])],by simp,fun cs h=>by rw [(List.mem_replicate.1 h).2]; rfl,?_,fun j cs x hc hx=>?_⟩
 ·have e:(List.replicate n ([.string (bs [])]:List Value)).flatten=List.replicate n (.string (bs [])):=by
   clear h
   induction n with
   | zero=>rfl
   | succ n ih=>rw [List.replicate_succ,List.flatten_cons,ih,List.replicate_succ]; rfl
  rw [e,List.length_replicate]; exact h
 ·have h1:=List.mem_replicate.1 (List.mem_of_getElem? hc)
  have h2:=List.mem_replicate.1 (List.mem_of_getElem? hx)
  rw [h1.2,h2.2]; exact rfl
section
variable {A:Nat→Prop} {base g n cap:Nat} {w:World} {xs:List Bs}
theorem outS_at (h:OutG StrK 1 A base 9 w (.slice (some ⟨g,0,none⟩) n cap) xs) (j:Nat) (x:Bs) (hx:xs[j]? = some x) :
  w.cell? ⟨g,j,none⟩=some (.string (bs x))∧w.frozen? ⟨g,j,none⟩=false∧g<w.heap.size∧base≤g:=by
 obtain ⟨g',cs,he,h1,h2,-,-,-,hc,hr⟩:=h.at_ j x hx
 cases he
 obtain ⟨hj,_⟩:=List.getElem?_eq_some_iff.1 hx
 have ht:=h.there j hj 0 (by omega)
 have h3:=hc 0 (.string (bs x)) (by rw [show cs=[.string (bs x)] from hr]; rfl)
 rw [Nat.mul_one,Nat.add_zero] at h3 ht
 exact ⟨h3,ht.2,h2,h1⟩
theorem outS_put (h:OutG StrK 1 A base 9 w (.slice (some ⟨g,0,none⟩) n cap) xs) (j:Nat) (hj:j<xs.length) (y:Bs) :
  OutG StrK 1 A base 9 (w.setCell ⟨g,j,none⟩ (.string (bs y))) (.slice (some ⟨g,0,none⟩) n cap) (xs.set j y):=by
 have:=OutG.put strK h j hj [.string (bs y)] y rfl rfl
 rw [Nat.mul_one] at this
 exact this
end
theorem set_mid {α:Type} (a:List α) (u y:α) (b:List α):(a ++ u :: b).set a.length y=a ++ y :: b:=by
 rw [List.set_append_right _ _ (Nat.le_refl _),Nat.sub_self]; rfl
theorem fill_set (a:List Bs) (n:Nat) (hn:0<n) (y:Bs):(a ++ List.replicate n []).set a.length y=(a ++ [y]) ++ List.replicate (n - 1) []:=by
 obtain ⟨m,rfl⟩:∃ m,n=m+1:=⟨n - 1,by omega⟩
 rw [List.replicate_succ,set_mid,Nat.add_sub_cancel,List.append_assoc]; rfl
/-- What Suffixes keeps in memory besides its maps. -/
structure SuA (Y:Nat) (yc:Array Value) (lang:Bs) (O PL n:Nat) (os pl:List Bs) (w:World):Prop where
 yb:Blk w Y 33 yc
 lb:Blk w (Y+1) 9 #[.string (bs lang)]
 out:OutG StrK 1 (fun _=>False) O 9 w (.slice (some ⟨O,0,none⟩) n n) os
 pla:OutG StrK 1 (fun _=>False) PL 9 w (.slice (some ⟨PL,0,none⟩) n n) pl
section
variable {Y O PL n:Nat} {yc:Array Value} {lang:Bs} {os pl:List Bs} {w w':World}
theorem SuA.only {T:Nat→Prop} (h:SuA Y yc lang O PL n os pl w) (k:Only T w w') (h1:¬ T Y) (h2:¬ T (Y+1)) (h3:¬ T O) (h4:¬ T PL):SuA Y yc lang O PL n os pl w' :=
 ⟨h.yb.onl k h1,h.lb.onl k h2,h.out.only strK k (fun _ _ q=>q.elim) (fun g q=>by cases q; exact h3),h.pla.only strK k (fun _ _ q=>q.elim) (fun g q=>by cases q; exact h4)⟩
theorem SuA.kept (h:SuA Y yc lang O PL n os pl w) (k:Kept w w'):SuA Y yc lang O PL n os pl w' :=
 ⟨h.yb.kept k,h.lb.kept k,h.out.kept strK k,h.pla.kept strK k⟩
theorem SuA.setO (h:SuA Y yc lang O PL n os pl w) (j:Nat) (hj:j<os.length) (y:Bs) (h1:Y+1<O) (h2:O<PL):SuA Y yc lang O PL n (os.set j y) pl (w.setCell ⟨O,j,none⟩ (.string (bs y))) :=
 have k:=Only.setCell (w:=w) O j (.string (bs y))
 ⟨h.yb.onl k (by omega),h.lb.onl k (by omega),outS_put h.out j hj y,h.pla.only strK k (fun _ _ q=>q.elim) (fun g q=>by cases q; exact (show ¬ (PL=O) from by omega))⟩
theorem SuA.setP (h:SuA Y yc lang O PL n os pl w) (j:Nat) (hj:j<pl.length) (y:Bs) (h1:Y+1<O) (h2:O<PL):SuA Y yc lang O PL n os (pl.set j y) (w.setCell ⟨PL,j,none⟩ (.string (bs y))) :=
 have k:=Only.setCell (w:=w) PL j (.string (bs y))
 ⟨h.yb.onl k (by omega),h.lb.onl k (by omega),h.out.only strK k (fun _ _ q=>q.elim) (fun g q=>by cases q; exact (show ¬ (O=PL) from by omega)),outS_put h.pla j hj y⟩
end
theorem Tryz.keyShape (te tm:TypeId) (hm:Tryz.prog.underlying tm=some (.map 102 te)):∃ fs,KeyP Tryz.prog tm 102 te fs:=by
 refine ⟨_,hm,Tryz.underlying102,fun a b w=>?_,fun e a w=>?_,fun a w=>same_kyP a w _⟩
 ·have h:(Op.equal 102 (kyP a) (kyP b)).run Tryz.prog w=if a.1=b.1 then if a.2=b.2 then Result.ok true w else Result.ok false w else Result.ok false w:=by
   simp [Op.equal,Op.maxDepth,kyP,go_sem,Tryz.underlying102]
  rw [h]
  obtain ⟨a1,a2⟩:=a
  obtain ⟨b1,b2⟩:=b
  by_cases q1:a1=b1
  ·by_cases q2:a2=b2
   ·simp [q1,q2]
   ·simp [q1,q2]
  ·simp [q1]
 ·have hin:∀ s w,(Instr.checkKey e (9998+1) 9 (.string s)).run Tryz.prog w=.ok () w:=fun s w=>by
   rw [Instr.checkKey]
   simp only [Sem.run_bind,run_underlying Tryz.underlying9,Result.andThen]
   simp [Sem.run_pure]
  show (Instr.checkKey e (9998+1+1) 102 (kyP a)).run Tryz.prog w=.ok () w
  rw [Instr.checkKey]
  simp only [Sem.run_bind,run_underlying Tryz.underlying102,Result.andThen,kyP]
  generalize 9998+1=N at *
  simp [go_sem,hin]
theorem zero_int (w:World):(zeroValue 3).run Tryz.prog w=.ok (.int .i64 0) w:=by kernel_rfl
end Go.Proofs.YtmcoomlkbgiboaaGreatDoor

/- cite.Suffixes: its regions that draw their order. Conditions: what the walk knows ahead of it. -/
set_option linter.all false
namespace Go.Proofs.YtmcoomlkbgiboaaGreatDoor
open Go.RowKit

theorem Tryz.infoSh:(Tryz.prog.info? 102).map (fun i=>(i.zero,i.size,i.bytes))=some (some (.agg #[.string ⟨#[]⟩,.string ⟨#[]⟩]),2,32):=by kernel_rfl
theorem Tryz.sizeSh:(Tryz.prog.info? 102).map (·.size)=some 2:=by kernel_rfl
theorem Tryz.sizeSt1:(Tryz.prog.info? 9).map (·.size)=some 1:=by kernel_rfl
def reg_suf28_f (s:SrcT) (vA vE vF:Value) (Y L I:Nat) (t1 t2:Bs) (n0:Nat):Nat→(Nat→Value)→World→Prop
 | 0,V,_=>V 0=.func (.func 49) #[] #[.pointer (some ⟨Y,0,none⟩),.pointer (some ⟨L,0,none⟩)]
 | 1,V,_=>V 1=.agg #[.string (bs s.key),.string (bs s.type),vA,vE,vF]
 | 2,V,_=>V 2=.string (bs t1)
 | 3,V,_=>V 3=.func (.func 49) #[] #[.pointer (some ⟨Y,0,none⟩),.pointer (some ⟨L,0,none⟩)]
 | 4,V,_=>V 4=.agg #[.string (bs s.key),.string (bs s.type),vA,vE,vF]
 | 5,V,_=>V 5=.string (bs t2)
 | 6,V,_=>V 6=.agg #[.string (bs t1),.string (bs t2)]
 | 7,V,w=>∃ Z:Nat,V 7=.pointer (some ⟨Z,0,none⟩)∧n0≤Z∧Blk w Z 102 #[.string (bs []),.string (bs [])]
 | _,_,_=>True
set_option maxRecDepth 100000 in
set_option maxHeartbeats 6400000 in
theorem reg_suf28 {ops:Array Oper} {id:Nat} {a:Act} {wr:World} {Q:Exit→Act→World→Prop} (s:SrcT) (vA vE vF:Value) (Y L I:Nat) (t1 t2:Bs)
  (hc:facB ops 9 8 #[[0,1,2,3,4,5,6,7]] #[[],[],[0,1],[],[],[3,4],[2,5],[],[6,7]] 124=true)
  (p0:OpAt ops 0 (.move (.tmp 10)) (some 89))
  (p1:OpAt ops 1 (.load 50 (.tmp 20)) (some 90))
  (p2:OpAt ops 2 (.call { callee:=.value (.tmp 89),args:=#[.tmp 90,.const (.string ⟨#[97]⟩)],argTypes:=#[50,9] }) (some 91))
  (p3:OpAt ops 3 (.move (.tmp 10)) (some 92))
  (p4:OpAt ops 4 (.load 50 (.tmp 20)) (some 93))
  (p5:OpAt ops 5 (.call { callee:=.value (.tmp 92),args:=#[.tmp 93,.const (.string ⟨#[98]⟩)],argTypes:=#[50,9] }) (some 94))
  (p6:OpAt ops 6 (.build 102 #[(0,.tmp 91),(1,.tmp 94)]) (some 95))
  (p7:OpAt ops 7 (.alloc 102) (some 21))
  (p8:OpAt ops 8 (.store 102 (.tmp 21) (.tmp 95)) none)
  (hz:124≤a.tmps.size) (h10:a.eval (.tmp 10)=.func (.func 49) #[] #[.pointer (some ⟨Y,0,none⟩),.pointer (some ⟨L,0,none⟩)]) (h20:a.eval (.tmp 20)=.pointer (some ⟨I,0,none⟩))
  (HB:Hid (Blk wr I 50 #[.string (bs s.key),.string (bs s.type),vA,vE,vF])) (HA:Hid (∀ w',Kept wr w'→Calls Tryz.prog 49 #[.agg #[.string (bs s.key),.string (bs s.type),vA,vE,vF],.string (bs [97]),.pointer (some ⟨Y,0,none⟩),.pointer (some ⟨L,0,none⟩)] w' fun e w''=>e=.returned (.string (bs t1))∧Kept w' w'')) (HC:Hid (∀ w',Kept wr w'→Calls Tryz.prog 49 #[.agg #[.string (bs s.key),.string (bs s.type),vA,vE,vF],.string (bs [98]),.pointer (some ⟨Y,0,none⟩),.pointer (some ⟨L,0,none⟩)] w' fun e w''=>e=.returned (.string (bs t2))∧Kept w' w''))
  (hend:∀ (V:Nat→Value) w' TB,V 7=.pointer (some ⟨TB,0,none⟩)→wr.heap.size≤TB→Blk w' TB 102 #[.string (bs t1),.string (bs t2)]→Kept wr w'→Q .normal (((((((((a.put (some 89) (V 0)).put (some 90) (V 1)).put (some 91) (V 2)).put (some 92) (V 3)).put (some 93) (V 4)).put (some 94) (V 5)).put (some 95) (V 6)).put (some 21) (V 7)).put none (V 8)) w') :
  (Code.region id ops true).wp Tryz.prog Q a wr:=by
 have e0:=opAt_dst p0
 have e1:=opAt_dst p1
 have e2:=opAt_dst p2
 have e3:=opAt_dst p3
 have e4:=opAt_dst p4
 have e5:=opAt_dst p5
 have e6:=opAt_dst p6
 have e7:=opAt_dst p7
 have e8:=opAt_dst p8
 have hout:∀ t,(t=10∨t=20)→∀ j,j<9→dstB ops j≠some t:=by
  intro t ht j hj
  obtain rfl | rfl | rfl | rfl | rfl | rfl | rfl | rfl | rfl:j=0∨j=1∨j=2∨j=3∨j=4∨j=5∨j=6∨j=7∨j=8:=by omega
  all_goals simp [e0,e1,e2,e3,e4,e5,e6,e7,e8]
  all_goals omega
 refine wp_region_factsL 9 8 124 _ _ hc (by rfl) hz (reg_suf28_f s vA vE vF Y L I t1 t2 wr.heap.size) (fun w=>Kept wr w) Kept
  (fun V w=>∃ TB:Nat,V 7=.pointer (some ⟨TB,0,none⟩)∧wr.heap.size≤TB∧Blk w TB 102 #[.string (bs t1),.string (bs t2)]∧Kept wr w) ?_ ?_ ?_ ?_ ?_ ?_ ?_ ?_ ?_
 ·intro j hj V V' w hV h
  have hjj:=hV j (.inl rfl)
  obtain rfl | rfl | rfl | rfl | rfl | rfl | rfl | rfl | rfl:j=0∨j=1∨j=2∨j=3∨j=4∨j=5∨j=6∨j=7∨j=8:=by omega
  all_goals (simp only [reg_suf28_f] at h ⊢; try (rw [← hjj]; exact h))
 ·intro V V' w hV h
  rw [← hV 7 (.inr (by simp))]; exact h
 ·intro j hj hne V w w' h k
  obtain rfl | rfl | rfl | rfl | rfl | rfl | rfl | rfl:j=0∨j=1∨j=2∨j=3∨j=4∨j=5∨j=6∨j=7:=by omega
  ·exact h
  ·exact h
  ·exact h
  ·exact h
  ·exact h
  ·exact h
  ·exact h
  ·obtain ⟨Z,h1,h2,h3⟩:=h
   exact ⟨Z,h1,h2,h3.kept k⟩
 ·intro j hj hne hni
  exfalso; apply hni
  have:j<8:=by omega
  simp only [Array.getD,List.size_toArray]
  obtain rfl | rfl | rfl | rfl | rfl | rfl | rfl | rfl:j=0∨j=1∨j=2∨j=3∨j=4∨j=5∨j=6∨j=7:=by omega
  all_goals simp
 ·exact kept_drewN wr 1
 ·intro i hi hne V a' w' hG hF hR hS K hK
  have o10:=(hR 10 (hout 10 (by omega))).trans h10
  have o20:=(hR 20 (hout 20 (by omega))).trans h20
  have hb:=HB.out.kept hG
  have same:∀ v,reg_suf28_f s vA vE vF Y L I t1 t2 wr.heap.size i (upd V i v) w'→K (a'.put (dstB ops i) v) w':=fun v h=>hK v w' (Kept.refl _) hG h
  obtain rfl | rfl | rfl | rfl | rfl | rfl | rfl | rfl:i=0∨i=1∨i=2∨i=3∨i=4∨i=5∨i=6∨i=7:=by omega
  ·exact op_move p0 o10 (same _ (upd_same _ _ _))
  ·refine opAt_list p1 fun o1 ho hg' hd'=>?_
   refine wpList_load_blk hg' 50 (.tmp 20) ho _ #[.string (bs s.key),.string (bs s.type),vA,vE,vF] o20 hb _ Tryz.underlying50 rfl Tryz.sizeS5 ?_
   rw [hd']
   exact same _ (upd_same _ _ _)
  ·have z0:=((hF 0 (by simp)).2 _ e0).trans (hF 0 (by simp)).1
   have z1:=((hF 1 (by simp)).2 _ e1).trans (hF 1 (by simp)).1
   refine opAt_enter p2 (f:=49) (args:=#[.agg #[.string (bs s.key),.string (bs s.type),vA,vE,vF],.string (bs [97]),.pointer (some ⟨Y,0,none⟩),.pointer (some ⟨L,0,none⟩)]) (w':=w') (fun o1 ho=>?_) ((HA.out w' hG).mono fun e w'' ⟨he,hk⟩=>⟨_,he,hK _ w'' hk (hG.trans hk) (upd_same _ _ _)⟩)
   simp only [execOp,ho,resolve,List.map_toArray,List.map_cons,List.map_nil,z0,z1]; simp [go_sem]
  ·exact op_move p3 o10 (same _ (upd_same _ _ _))
  ·refine opAt_list p4 fun o1 ho hg' hd'=>?_
   refine wpList_load_blk hg' 50 (.tmp 20) ho _ #[.string (bs s.key),.string (bs s.type),vA,vE,vF] o20 hb _ Tryz.underlying50 rfl Tryz.sizeS5 ?_
   rw [hd']
   exact same _ (upd_same _ _ _)
  ·have z3:=((hF 3 (by simp)).2 _ e3).trans (hF 3 (by simp)).1
   have z4:=((hF 4 (by simp)).2 _ e4).trans (hF 4 (by simp)).1
   refine opAt_enter p5 (f:=49) (args:=#[.agg #[.string (bs s.key),.string (bs s.type),vA,vE,vF],.string (bs [98]),.pointer (some ⟨Y,0,none⟩),.pointer (some ⟨L,0,none⟩)]) (w':=w') (fun o1 ho=>?_) ((HC.out w' hG).mono fun e w'' ⟨he,hk⟩=>⟨_,he,hK _ w'' hk (hG.trans hk) (upd_same _ _ _)⟩)
   simp only [execOp,ho,resolve,List.map_toArray,List.map_cons,List.map_nil,z3,z4]; simp [go_sem]
  ·have z2:=((hF 2 (by simp)).2 _ e2).trans (hF 2 (by simp)).1
   have z5:=((hF 5 (by simp)).2 _ e5).trans (hF 5 (by simp)).1
   refine opAt_value p6 (v:=.agg #[.string (bs t1),.string (bs t2)]) (w':=w') (fun o1 ho=>?_) (same _ (upd_same _ _ _))
   have y91:=z2
   simp only [Act.eval,Array.getD_eq_getD_getElem?] at y91
   have y94:=z5
   simp only [Act.eval,Array.getD_eq_getD_getElem?] at y94
   simp only [execOp,ho]; simp [go_sem,y91,y94]
  ·obtain ⟨i0,hi,hz0,hz1,hz2⟩:=info_parts Tryz.infoSh
   refine opAt_value p7 (v:=.pointer (some ⟨w'.heap.size,0,none⟩)) (w':=w'.alloc (.cells #[.string (bs []),.string (bs [])] 102)) (fun o1 ho=>?_) (hK _ _ (kept_alloc _ _) (hG.trans (kept_alloc _ _)) ⟨w'.heap.size,upd_same _ _ _,hG.size,Blk.new _ _ _⟩)
   simp only [execOp,ho]; simp [go_sem,hi,hz0]
 ·intro V a' w' hG hF hR K hK
  obtain ⟨⟨Z,r1,r2,r3⟩,r4⟩:=hF 7 (by simp)
  have z1:=(r4 _ e7).trans r1
  have z0:=((hF 6 (by simp)).2 _ e6).trans (hF 6 (by simp)).1
  refine opAt_list p8 fun o1 ho hg' hd'=>?_
  refine wpList_store_blk hg' 102 (.tmp 21) (.tmp 95) ho Z #[.string (bs []),.string (bs [])] #[.string (bs t1),.string (bs t2)] z1 z0 r3 rfl Tryz.sizeSh (by simp [Value.oneCell']) ?_
  intro w2 hb2 ho2
  rw [hd']
  exact hK _ _ ⟨Z,(upd_ne (by omega)).trans r1,r2,hb2,hG.trans' (ho2.below hG.size (fun i e=>by rw [e]; exact r2))⟩
 ·intro i hi hne hni
  exfalso; apply hni
  have:i<8:=by omega
  obtain rfl | rfl | rfl | rfl | rfl | rfl | rfl | rfl:i=0∨i=1∨i=2∨i=3∨i=4∨i=5∨i=6∨i=7:=by omega
  all_goals simp
 ·intro V w' ⟨TB,g1,g2,g3,g4⟩ _
  have:=hend V w' TB g1 g2 g3 g4
  simp only [putAll,e0,e1,e2,e3,e4,e5,e6,e7,e8]
  exact this
def reg_suf31_f (s:SrcT) (vA vE vF:Value) (Y L I O n ix:Nat) (t1 t2:Bs) (n0:Nat):Nat→(Nat→Value)→World→Prop
 | 0,V,_=>V 0=.func (.func 49) #[] #[.pointer (some ⟨Y,0,none⟩),.pointer (some ⟨L,0,none⟩)]
 | 1,V,_=>V 1=.agg #[.string (bs s.key),.string (bs s.type),vA,vE,vF]
 | 2,V,_=>V 2=.slice (some ⟨O,0,none⟩) n n
 | 3,V,_=>V 3=.int .i64 ix
 | 4,V,_=>V 4=.pointer (some ⟨O,ix,none⟩)
 | 5,V,_=>V 5=.string (bs t1)
 | 6,V,_=>V 6=.string (bs t2)
 | _,_,_=>True
set_option maxRecDepth 100000 in
set_option maxHeartbeats 6400000 in
theorem reg_suf31 {ops:Array Oper} {id:Nat} {a:Act} {wr:World} {Q:Exit→Act→World→Prop} (s:SrcT) (vA vE vF:Value) (Y L I O n ix:Nat) (t1 t2:Bs)
  (hc:facB ops 8 7 #[[0,1,2,3,4,5,6]] #[[],[],[],[],[2,3],[4],[0,1,5],[6]] 124=true)
  (p0:OpAt ops 0 (.move (.tmp 10)) (some 109))
  (p1:OpAt ops 1 (.load 50 (.tmp 20)) (some 110))
  (p2:OpAt ops 2 (.move (.tmp 9)) (some 111))
  (p3:OpAt ops 3 (.move (.tmp 19)) (some 112))
  (p4:OpAt ops 4 (.indexAddr 29 (.tmp 111) (.tmp 112)) (some 113))
  (p5:OpAt ops 5 (.load 9 (.tmp 113)) (some 114))
  (p6:OpAt ops 6 (.call { callee:=.value (.tmp 109),args:=#[.tmp 110,.tmp 114],argTypes:=#[50,9] }) (some 115))
  (p7:OpAt ops 7 (.assign (.tmp 115)) (some 22))
  (hz:124≤a.tmps.size) (h9:a.eval (.tmp 9)=.slice (some ⟨O,0,none⟩) n n) (h10:a.eval (.tmp 10)=.func (.func 49) #[] #[.pointer (some ⟨Y,0,none⟩),.pointer (some ⟨L,0,none⟩)]) (h19:a.eval (.tmp 19)=.int .i64 ix) (h20:a.eval (.tmp 20)=.pointer (some ⟨I,0,none⟩))
  (HB:Hid (Blk wr I 50 #[.string (bs s.key),.string (bs s.type),vA,vE,vF])) (HCO:Hid (O<wr.heap.size∧wr.cell? ⟨O,ix,none⟩=some (.string (bs t1)))) (hin:ix<n) (hn:n≤100) (HA:Hid (∀ w',Kept wr w'→Calls Tryz.prog 49 #[.agg #[.string (bs s.key),.string (bs s.type),vA,vE,vF],.string (bs t1),.pointer (some ⟨Y,0,none⟩),.pointer (some ⟨L,0,none⟩)] w' fun e w''=>e=.returned (.string (bs t2))∧Kept w' w''))
  (hend:∀ (V:Nat→Value) w',V 7=.string (bs t2)→Kept wr w'→Q .normal ((((((((a.put (some 109) (V 0)).put (some 110) (V 1)).put (some 111) (V 2)).put (some 112) (V 3)).put (some 113) (V 4)).put (some 114) (V 5)).put (some 115) (V 6)).put (some 22) (V 7)) w') :
  (Code.region id ops true).wp Tryz.prog Q a wr:=by
 have e0:=opAt_dst p0
 have e1:=opAt_dst p1
 have e2:=opAt_dst p2
 have e3:=opAt_dst p3
 have e4:=opAt_dst p4
 have e5:=opAt_dst p5
 have e6:=opAt_dst p6
 have e7:=opAt_dst p7
 have hout:∀ t,(t=9∨t=10∨t=19∨t=20)→∀ j,j<8→dstB ops j≠some t:=by
  intro t ht j hj
  obtain rfl | rfl | rfl | rfl | rfl | rfl | rfl | rfl:j=0∨j=1∨j=2∨j=3∨j=4∨j=5∨j=6∨j=7:=by omega
  all_goals simp [e0,e1,e2,e3,e4,e5,e6,e7]
  all_goals omega
 refine wp_region_factsL 8 7 124 _ _ hc (by rfl) hz (reg_suf31_f s vA vE vF Y L I O n ix t1 t2 wr.heap.size) (fun w=>Kept wr w) Kept
  (fun V w=>V 7=.string (bs t2)∧Kept wr w) ?_ ?_ ?_ ?_ ?_ ?_ ?_ ?_ ?_
 ·intro j hj V V' w hV h
  have hjj:=hV j (.inl rfl)
  obtain rfl | rfl | rfl | rfl | rfl | rfl | rfl | rfl:j=0∨j=1∨j=2∨j=3∨j=4∨j=5∨j=6∨j=7:=by omega
  all_goals (simp only [reg_suf31_f] at h ⊢; try (rw [← hjj]; exact h))
 ·intro V V' w hV h
  rw [← hV 7 (.inl rfl)]; exact h
 ·intro j hj hne V w w' h k
  obtain rfl | rfl | rfl | rfl | rfl | rfl | rfl:j=0∨j=1∨j=2∨j=3∨j=4∨j=5∨j=6:=by omega
  all_goals exact h
 ·intro j hj hne hni
  exfalso; apply hni
  have:j<7:=by omega
  simp only [Array.getD,List.size_toArray]
  obtain rfl | rfl | rfl | rfl | rfl | rfl | rfl:j=0∨j=1∨j=2∨j=3∨j=4∨j=5∨j=6:=by omega
  all_goals simp
 ·exact kept_drewN wr 1
 ·intro i hi hne V a' w' hG hF hR hS K hK
  have o9:=(hR 9 (hout 9 (by omega))).trans h9
  have o10:=(hR 10 (hout 10 (by omega))).trans h10
  have o19:=(hR 19 (hout 19 (by omega))).trans h19
  have o20:=(hR 20 (hout 20 (by omega))).trans h20
  have hb:=HB.out.kept hG
  have c0:w'.cell? ⟨O,ix,none⟩=some (.string (bs t1)):=(hG.cell (p:=⟨O,ix,none⟩) HCO.out.1).trans HCO.out.2
  have same:∀ v,reg_suf31_f s vA vE vF Y L I O n ix t1 t2 wr.heap.size i (upd V i v) w'→K (a'.put (dstB ops i) v) w':=fun v h=>hK v w' (Kept.refl _) hG h
  obtain rfl | rfl | rfl | rfl | rfl | rfl | rfl:i=0∨i=1∨i=2∨i=3∨i=4∨i=5∨i=6:=by omega
  ·exact op_move p0 o10 (same _ (upd_same _ _ _))
  ·refine opAt_list p1 fun o1 ho hg' hd'=>?_
   refine wpList_load_blk hg' 50 (.tmp 20) ho _ #[.string (bs s.key),.string (bs s.type),vA,vE,vF] o20 hb _ Tryz.underlying50 rfl Tryz.sizeS5 ?_
   rw [hd']
   exact same _ (upd_same _ _ _)
  ·exact op_move p2 o9 (same _ (upd_same _ _ _))
  ·exact op_move p3 o19 (same _ (upd_same _ _ _))
  ·have z2:=((hF 2 (by simp)).2 _ e2).trans (hF 2 (by simp)).1
   have z3:=((hF 3 (by simp)).2 _ e3).trans (hF 3 (by simp)).1
   have z2:=((hF 2 (by simp)).2 _ e2).trans (hF 2 (by simp)).1
   have z3:=((hF 3 (by simp)).2 _ e3).trans (hF 3 (by simp)).1
   refine opAt_value p4 (v:=.pointer (some ⟨O,ix,none⟩)) (w':=w') (fun o1 ho=>?_) (same _ (upd_same _ _ _))
   simp only [execOp,ho,z2,z3]; simp [go_sem,Tryz.underlying29,Tryz.sizeSt1]; intro hh; omega
  ·have z4:=((hF 4 (by simp)).2 _ e4).trans (hF 4 (by simp)).1
   refine opAt_value p5 (v:=.string (bs t1)) (w':=w') (fun o1 ho=>?_) (same _ (upd_same _ _ _))
   simp only [execOp,ho,z4]; simp [go_sem,Tryz.underlying9,c0]
  ·have z0:=((hF 0 (by simp)).2 _ e0).trans (hF 0 (by simp)).1
   have z1:=((hF 1 (by simp)).2 _ e1).trans (hF 1 (by simp)).1
   have z5:=((hF 5 (by simp)).2 _ e5).trans (hF 5 (by simp)).1
   refine opAt_enter p6 (f:=49) (args:=#[.agg #[.string (bs s.key),.string (bs s.type),vA,vE,vF],.string (bs t1),.pointer (some ⟨Y,0,none⟩),.pointer (some ⟨L,0,none⟩)]) (w':=w') (fun o1 ho=>?_) ((HA.out w' hG).mono fun e w'' ⟨he,hk⟩=>⟨_,he,hK _ w'' hk (hG.trans hk) (upd_same _ _ _)⟩)
   simp only [execOp,ho,resolve,List.map_toArray,List.map_cons,List.map_nil,z0,z1,z5]; simp [go_sem]
 ·intro V a' w' hG hF hR K hK
  have z0:=((hF 6 (by simp)).2 _ e6).trans (hF 6 (by simp)).1
  exact op_assign p7 z0 (hK _ _ ⟨upd_same _ _ _,hG⟩)
 ·intro i hi hne hni
  exfalso; apply hni
  have:i<7:=by omega
  obtain rfl | rfl | rfl | rfl | rfl | rfl | rfl:i=0∨i=1∨i=2∨i=3∨i=4∨i=5∨i=6:=by omega
  all_goals simp
 ·intro V w' ⟨g1,g2⟩ _
  have:=hend V w' g1 g2
  simp only [putAll,e0,e1,e2,e3,e4,e5,e6,e7]
  exact this
end Go.Proofs.YtmcoomlkbgiboaaGreatDoor

/- cite.letters at 26 or less; slices.Reverse at one byte. Conditions: the number. -/
set_option linter.all false
namespace Go.Proofs.YtmcoomlkbgiboaaGreatDoor
open Go.RowKit

theorem Tryz.infoU8:(Tryz.prog.info? 5).map (fun i=>(i.zero,i.size,i.bytes))=some (some (.int .u8 0),1,1):=by kernel_rfl
def U8K (S:Nat→Prop) (w:World) (cs:List Value) (x:UInt8):Prop:=cs=[.int .u8 (x.toNat:Int)]
theorem u8K:ReadK U8K:=⟨fun h _ _=>h,fun h u hu=>by rw [h] at hu; simp at hu; subst hu; rfl⟩
set_option maxRecDepth 100000 in
theorem rev1_any (a:Option Addr) (c:Nat) (w:World):Calls Tryz.prog 106 #[.slice a 1 c] w fun e w'=>e=.returned (.tuple #[])∧w'=w:=by
 go_enter Tryz.func106,Tryz.ntmps106
 go_wp2_with fail
 go_loopw [2,3] (fun i j wr=>i=.int .i64 0∧j=.int .i64 0∧w=wr) (fun _ _ _=>0)
 case atStart=>exact ⟨rfl,rfl,rfl⟩
 case round =>
  obtain ⟨rfl,rfl,rfl⟩:=hrel
  go_wp2_with fail
  go_end0
  exact ⟨rfl,rfl⟩
theorem letL_small {n:Nat} (h1:1≤n) (h2:n≤26):letL n=[UInt8.ofNat (96+n)]:=by
 unfold letL
 rw [letR_pos (by omega),show (n - 1) / 26=0 by omega,letR_zero,show 97+(n - 1) % 26=96+n by omega]; rfl
set_option maxRecDepth 100000 in
set_option maxHeartbeats 3200000 in
theorem ciletters_any (n:Nat) (h1:1≤n) (h2:n≤26) (w:World):Calls Tryz.prog 50 #[.int .i64 n] w fun e w'=>e=.returned (.string (bs (letL n)))∧Kept w w':=by
 obtain ⟨i0,hi,hz0,hz1,hz2⟩:=info_parts Tryz.infoU8
 rw [letL_small h1 h2]
 obtain ⟨b,HB⟩:∃ b,Hid (UInt8.ofNat (96+n)=b):=⟨_,rfl⟩
 have hbn:Hid (((b.toNat:Nat):Int)=(n:Int)+96):=by
  show _=_
  rw [← HB.out,UInt8.toNat_ofNat']; omega
 rw [HB.out]
 have w1:(IntKind.u8).wrap ((n:Int) - 1)=(n:Int) - 1:=by simp [IntKind.wrap,IntKind.signed,IntKind.bits]; omega
 have w2:(IntKind.u8).wrap (97+((n:Int) - 1))=(n:Int)+96:=by simp [IntKind.wrap,IntKind.signed,IntKind.bits]; omega
 have w3:((n:Int) - 1) % 26=(n:Int) - 1:=by omega
 have w4:((n:Int) - 1) / 26=0:=by omega
 go_enter Tryz.func50,Tryz.ntmps50
 go_wp2_with fail
 simp only [mk_bs]
 go_loopw [0,3] (fun m o wr=>(m=.int .i64 n∧o=.slice none 0 0∧w=wr)∨(m=.int .i64 0∧∃ g c,o=.slice (some ⟨g,0,none⟩) 1 c∧g<wr.heap.size∧wr.cell? ⟨g,0,none⟩=some (.int .u8 (b.toNat:Int))∧Hid (Kept w wr))) (fun m _ _=>(intOf m).toNat)
 case atStart=>exact .inl ⟨rfl,rfl,rfl⟩
 case round =>
  rcases hrel with ⟨rfl,rfl,rfl⟩ | ⟨rfl,g,c,rfl,hg,hc,HK⟩
  ·have hn0:(0:Int)<(n:Int):=by omega
   have HROW:=Lib.hid (Blk.new w 5 #[.int .u8 ((n:Int)+96)])
   have HK6:=Lib.hid (kept_alloc w (.cells #[.int .u8 ((n:Int)+96)] 5))
   have HG6:=Lib.hid (OutG.nil U8K 1 (fun _=>False) w.heap.size 5 (w.alloc (.cells #[.int .u8 ((n:Int)+96)] 5)))
   have hb6:w.heap.size≤(w.alloc (.cells #[.int .u8 ((n:Int)+96)] 5)).heap.size:=HK6.out.size
   go_wp2_with (at_builtin; refine holdC ?_)
   refine Lib.hid ?_
   refine wpList_append_out u8K rfl (.tmp 9) (.tmp 15) 120 rfl i0 _ 1 Tryz.underlying120 hi hz0 hz1 hz2 rfl (by omega) (by rfl) HG6.out _ [.int .u8 ((n:Int)+96)] b (by rfl) (fun j u hu=>HROW.out.cell j u (by rw [← Array.getElem?_toList]; exact hu)) rfl (by show _=_; rw [hbn.out]) (by unfold maxLen; simp) (by simp) hb6 _ rfl ?_
   intro g7 c7' w7 hout7 hgrow7 hat7 hlt7
   obtain ⟨g8,cs8,e8,-,-,-,-,hl8,hc8,hr8⟩:=hout7.at_ 0 b rfl
   have hcs:cs8=[.int .u8 (b.toNat:Int)]:=hr8
   subst hcs
   cases e8
   have c0:w7.cell? ⟨g7,0,none⟩=some (.int .u8 (b.toNat:Int)):=hc8 0 _ rfl
   have HK7:Hid (Kept w w7):=HK6.out.trans' ((Only.grown hgrow7).below HK6.out.size (fun i q=>by cases q))
   clear hout7 hgrow7 hat7 hl8 hc8 hr8 HROW HG6 HK6
   go_wp2_with fail
   go_roundw
   case rel=>exact .inr ⟨by first | rfl | (congr 1; omega) | congr 1,g7,c7',rfl,hlt7,c0,HK7.out⟩
   case measure=>first | (simp [intOf]; done) | (simp [intOf]; omega)
  ·have hcv:(convert 120 9 (.slice (some ⟨g,0,none⟩) 1 c)).run Tryz.prog wr=.ok (.string (bs [b])) wr:=by
    refine run_convert_bytes_back (P:=Tryz.prog) wr 120 9 5 ⟨g,0,none⟩ c [b] Tryz.underlying120 Tryz.underlying5 Tryz.underlying9 ?_
    intro j hj
    have:j=0:=by simpa using hj
    subst this
    exact hc
   go_wp2_with fail
   refine (rev1_any (some ⟨g,0,none⟩) c wr).mono ?_
   rintro e w8 ⟨rfl,rfl⟩
   go_wp2_with fail
   (try go_ret)
   exact ⟨rfl,HK.out⟩
end Go.Proofs.YtmcoomlkbgiboaaGreatDoor
