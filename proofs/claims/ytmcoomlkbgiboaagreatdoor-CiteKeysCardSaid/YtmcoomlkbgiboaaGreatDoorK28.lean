/- Year of package bib and of its reference, at fields of any length. No condition but what a machine bears. -/
import Derived.Test.YtmcoomlkbgiboaaGreatDoorK17
import Derived.Test.YtmcoomlkbgiboaaGreatDoorK27
import Derived.Test.YtmcoomlkbgiboaaGreatDoorK13
import Derived.Test.YtmcoomlkbgiboaaGreatDoorK21
import Derived.Test.YtmcoomlkbgiboaaGreatDoorK23
import Derived.Test.YtmcoomlkbgiboaaGreatDoorK26
import Derived.Test.YtmcoomlkbgiboaaGreatDoorK14
import Derived.Lib.AppendIntMem

set_option linter.all false
namespace Go.Proofs.YtmcoomlkbgiboaaGreatDoor
open Go.RowKit

set_option maxRecDepth 100000 in
set_option maxHeartbeats 3200000 in
theorem year_wide (sk st:Bs) (vA vE vF:Value) (ps:List Pr) (w:World) (hv:Prs w vF ps) (hN:ps.length≤1100000) (hl:((fieldL ps [121,101,97,114]).getD []).length≤140737488355328) :
  Calls Tryz.prog 37 #[srcV sk st vA vE vF] w fun e w'=>e=.returned (.int .i64 (yearL ((fieldL ps [121,101,97,114]).getD [])))∧Kept w w':=by
 have HF:=Lib.hid (fun w hv=>field_any sk st vA vE vF ps [121,101,97,114] w hv hN)
 unfold FieldPost at HF
 have HV:=Lib.hid hv
 have HNO:Hid ((fieldL ps [121,101,97,114]).isSome=false→(fieldL ps [121,101,97,114]).getD []=[]):=by
  intro h
  cases q:fieldL ps [121,101,97,114] with
  | none=>rfl
  | some x=>rw [q] at h; cases h
 clear hv
 generalize (fieldL ps [121,101,97,114]).isSome=ok at *
 generalize (fieldL ps [121,101,97,114]).getD []=v at *
 cases ok
 ·have HZ:Hid (yearL v=0):=by show _=_; rw [HNO.out rfl]; rfl
  go_enter Tryz.func37,Tryz.ntmps37
  go_wp2_with fail
  refine (HF.out _ (HV.out.kept (kept_alloc _ _))).mono ?_
  rintro e w1 ⟨rfl,hk1⟩
  have HK:=Lib.hid ((kept_alloc _ _).trans hk1)
  clear hk1
  go_wp2_with fail
  go_ret
  exact ⟨ret_int HZ.out.symm,HK.out⟩
 by_cases hle:v.length≤4
 ·go_enter Tryz.func37,Tryz.ntmps37
  go_wp2_with fail
  refine (HF.out _ (HV.out.kept (kept_alloc _ _))).mono ?_
  rintro e w1 ⟨rfl,hk1⟩
  have HK:=Lib.hid ((kept_alloc _ _).trans hk1)
  clear hk1
  go_wp2_with fail
  go_loopw [5] (fun n wr=>∃ pos:Nat,pos≤v.length∧n=.int .i64 (numL (v.take pos))∧wr.heap[w1.heap.size]? = some (.stringIter (bs v) pos)∧Kept w1 wr∧Hid ((v.take pos).all digB=true)) (fun _ wr=>v.length - wr.iterPos w1.heap.size)
  case atStart=>exact ⟨0,Nat.zero_le _,rfl,by have:=World.iter_heap w1 (bs v) 0; simpa using this,kept_alloc _ _,rfl⟩
  case round =>
   obtain ⟨pos,hp,rfl,hit,hk,HA⟩:=hrel
   by_cases hlt:pos<v.length
   ·have nx:=fun ty=>run_next_k (P:=Tryz.prog) wr w1.heap.size (bs v) pos ty hit hlt
    have h0:=at8_lo v pos
    have hnb:numL (v.take pos)≤9999:=num_bound _ (by simp; omega) HA.out
    by_cases hd:48≤at8 v pos∧at8 v pos≤57
    ·rw [dec_low v pos (by omega)] at nx
     simp only [show ((1:Int).toNat)=1 from rfl] at nx
     obtain ⟨ha,hn⟩:=all_step v pos hlt HA.out hd
     have HA2:=Lib.hid ha
     have HN2:=Lib.hid hn
     obtain ⟨q1,q2,q3,q4⟩:=iter_next w1 wr w1.heap.size v pos 1 hit hk (Nat.le_refl _)
     have HQ1:=Lib.hid q1
     have HQ2:=Lib.hid q2
     have HQ3:=Lib.hid q3
     have HQ4:=Lib.hid q4
     generalize wr.iterAt w1.heap.size (bs v) (pos+1)=wq at *
     generalize numL (v.take pos)=nk at *
     generalize at8 v pos=b at *
     obtain ⟨hd1,hd2⟩:=hd
     clear ha hn HA q1 q2 q3 q4 hit hk
     go_wp2_with fail
     go_roundw
     case rel=>exact ⟨pos+1,by omega,by first | (rw [HN2.out]; done) | (rw [HN2.out]; congr 1; omega),HQ1.out,HQ2.out,HA2.out⟩
     case measure=>rw [HQ3.out,HQ4.out]; omega
    ·have HZ:=Lib.hid (yearL_bad v pos hlt hd)
     have hcc:(dec (bs v) pos).1<48∨57<(dec (bs v) pos).1:=by
      by_cases q:at8 v pos<128
      ·rw [dec_low v pos q]; simp only; omega
      ·have:=dec_hi v pos (by omega); omega
     have hcr:=dec_bounds (bs v) pos hlt
     obtain ⟨q1,q2,q3,q4⟩:=iter_next w1 wr w1.heap.size v pos (dec (bs v) pos).2.toNat hit hk (Nat.le_refl _)
     have HQ2:=Lib.hid (HK.out.trans q2)
     generalize wr.iterAt w1.heap.size (bs v) (pos+(dec (bs v) pos).2.toNat)=wq at *
     generalize (dec (bs v) pos).1=c at *
     obtain ⟨b1,b2,_⟩:=hcr
     generalize numL (v.take pos)=nk at *
     clear hd HA q1 q2 q3 q4 hit hk
     rcases hcc with q | q
     all_goals
      go_wp2_with fail
      go_ret
      exact ⟨ret_int HZ.out.symm,HQ2.out⟩
   ·have nx:=fun ty=>run_next_k_end (P:=Tryz.prog) wr w1.heap.size (bs v) pos ty hit (by simpa using hlt)
    have HZ:Hid (yearL v=numL (v.take pos)):=by
     show _=_
     have h:=HA.out
     rw [List.take_of_length_le (by omega)] at h ⊢
     exact yearL_good v hle h
    have HR:=Lib.hid (HK.out.trans hk)
    generalize numL (v.take pos)=nk at *
    clear hk HA hit
    go_wp2_with fail
    go_ret
    exact ⟨ret_int HZ.out.symm,HR.out⟩
 ·have HZ:Hid (yearL v=0):=by show _=_; unfold yearL; rw [if_neg (fun q=>hle q.1)]
  go_enter Tryz.func37,Tryz.ntmps37
  go_wp2_with fail
  refine (HF.out _ (HV.out.kept (kept_alloc _ _))).mono ?_
  rintro e w1 ⟨rfl,hk1⟩
  have HK:=Lib.hid ((kept_alloc _ _).trans hk1)
  clear hk1
  go_wp2_with fail
  go_ret
  exact ⟨ret_int HZ.out.symm,HK.out⟩
end Go.Proofs.YtmcoomlkbgiboaaGreatDoor

/- values of style. Conditions: lengths. -/
set_option linter.all false
namespace Go.Proofs.YtmcoomlkbgiboaaGreatDoor
open Go.RowKit

def sD:Nat→Option Nat
 | 0=>some 13
 | 1=>some 14
 | 2=>some 15
 | 3=>some 16
 | 4=>some 17
 | 5=>some 18
 | 6=>some 19
 | 8=>some 20
 | 9=>some 21
 | 10=>some 22
 | 11=>some 23
 | 12=>some 24
 | 13=>some 25
 | 15=>some 26
 | 16=>some 27
 | 17=>some 28
 | 18=>some 29
 | 19=>some 30
 | 20=>some 31
 | 22=>some 32
 | 23=>some 33
 | 24=>some 34
 | 25=>some 35
 | 26=>some 36
 | 27=>some 37
 | 30=>some 38
 | 33=>some 39
 | 34=>some 40
 | 36=>some 41
 | 37=>some 42
 | 39=>some 43
 | 40=>some 11
 | _=>none
def sV (c:FilT) (B5 B6:Nat) (vA vE:Value) (A E AS ES:Bs) (M:Nat):Nat→Value
 | 0=>.map (some M)
 | 1=>.pointer (some ⟨B5,2,none⟩)
 | 2=>vA
 | 3=>.string (bs c.lang)
 | 4=>.pointer (some ⟨B6,8,none⟩)
 | 5=>.int .i64 c.most
 | 6=>.string (bs A)
 | 8=>.pointer (some ⟨B5,3,none⟩)
 | 9=>vE
 | 10=>.string (bs c.lang)
 | 11=>.pointer (some ⟨B6,8,none⟩)
 | 12=>.int .i64 c.most
 | 13=>.string (bs E)
 | 15=>.pointer (some ⟨B5,2,none⟩)
 | 16=>vA
 | 17=>.string (bs c.lang)
 | 18=>.pointer (some ⟨B6,8,none⟩)
 | 19=>.int .i64 c.most
 | 20=>.string (bs AS)
 | 22=>.pointer (some ⟨B5,3,none⟩)
 | 23=>vE
 | 24=>.string (bs c.lang)
 | 25=>.pointer (some ⟨B6,8,none⟩)
 | 26=>.int .i64 c.most
 | 27=>.string (bs ES)
 | 30=>.string (bs c.suffix)
 | 33=>.pointer (some ⟨B5,0,none⟩)
 | 34=>.string (bs c.key)
 | 36=>.pointer (some ⟨B5,1,none⟩)
 | 37=>.string (bs c.type)
 | 39=>.map (some M)
 | 40=>.map (some M)
 | _=>undef
def insJ:List (Nat × Bs):=[(7,kAuthor),(14,kEditor),(21,kAuthors),(28,kEditors),(29,kYear),(31,kSuffix),(32,kNumber),(35,kKey),(38,kType)]
def spec0 (c:FilT) (A E AS ES:Bs):List (Bs × Bs):=[(kAuthor,A),(kEditor,E),(kAuthors,AS),(kEditors,ES),(kYear,[]),(kSuffix,c.suffix),(kNumber,[]),(kKey,c.key),(kType,c.type)]
def lookB (l:List (Bs × Bs)) (k:Bs):Option Bs:=(l.find? fun e=>e.1 == k).map (·.2)
theorem sD_inj:∀ i,i<41→∀ j,j<41→sD i≠none→sD i=sD j→j=i:=by decide +kernel
theorem sD_lt:∀ i,i<41→(sD i).all (fun d=>decide (d<57))=true:=by decide +kernel
/-- Has the key been put in? -/
def hasL (L:Array Bool) (k:Bs):Bool:=insJ.any fun e=>e.2 == k && L.getD e.1 false
def gL (L:Array Bool) (sp:List (Bs × Bs)) (k:Bs):Option Bs:=if hasL L k=true then lookB sp k else none
theorem hasL_other (L:Array Bool) (i:Nat) (h:∀ e∈insJ,e.1≠i) (k:Bs):hasL (L.setIfInBounds i true) k=hasL L k:=by
 unfold hasL
 rw [Bool.eq_iff_iff,List.any_eq_true,List.any_eq_true]
 constructor
 ·rintro ⟨e,he,h2⟩
  rw [getD_set_ne false (fun q=>h e he q.symm)] at h2
  exact ⟨e,he,h2⟩
 ·rintro ⟨e,he,h2⟩
  refine ⟨e,he,?_⟩
  rw [getD_set_ne false (fun q=>h e he q.symm)]; exact h2
theorem hasL_put (L:Array Bool) (i:Nat) (k:Bs) (hi:i<L.size) (hm:(i,k)∈insJ) (h:∀ e∈insJ,e.1=i→e.2=k) (k':Bs):hasL (L.setIfInBounds i true) k'=(k' == k || hasL L k'):=by
 unfold hasL
 rw [Bool.eq_iff_iff,Bool.or_eq_true,List.any_eq_true,List.any_eq_true]
 constructor
 ·rintro ⟨e,he,h2⟩
  by_cases q:e.1=i
  ·have:=h e he q
   rw [Bool.and_eq_true,beq_iff_eq] at h2
   left; rw [beq_iff_eq,← h2.1,this]
  ·rw [getD_set_ne false (fun x=>q x.symm)] at h2
   exact .inr ⟨e,he,h2⟩
 ·rintro (h2 | ⟨e,he,h2⟩)
  ·rw [beq_iff_eq] at h2
   subst h2
   refine ⟨(i,k'),hm,?_⟩
   have:=on_same hi
   unfold On at this
   simp only [beq_self_eq_true,Bool.true_and]; exact this
  ·rw [Bool.and_eq_true] at h2
   exact ⟨e,he,by rw [Bool.and_eq_true]; exact ⟨h2.1,on_mono h2.2⟩⟩
theorem hasL_not (L:Array Bool) (i:Nat) (k:Bs) (h:∀ e∈insJ,e.2=k→e.1=i) (hn:¬ On L i):hasL L k=false:=by
 unfold hasL
 rw [List.any_eq_false]
 intro e he h2
 rw [Bool.and_eq_true,beq_iff_eq] at h2
 have:=h e he h2.1
 rw [this] at h2
 exact hn h2.2
theorem sV_M {c:FilT} {B5 B6:Nat} {vA vE:Value} {A E AS ES:Bs} {M M':Nat} (j:Nat) (h0:j≠0) (h1:j≠39) (h2:j≠40):sV c B5 B6 vA vE A E AS ES M j=sV c B5 B6 vA vE A E AS ES M' j:=by
 unfold sV
 split <;> first | rfl | contradiction
/-- The state of the region: what has been done, the map, the world. -/
def SvI (c:FilT) (B5 B6:Nat) (vA vE:Value) (A E AS ES:Bs) (w0:World) (a0:Act) (L:Array Bool) (a:Act) (w:World):Prop :=
 L.size=41∧∃ M,Slots 41 sD (sV c B5 B6 vA vE A E AS ES M) L a0 a∧Kept w0 w∧((∀ e∈insJ,On L e.1→On L 0)∧(On L 39→On L 0)∧(On L 40→On L 0)) ∧
  (On L 0→w0.heap.size≤M∧∃ es,MapT w M es∧∀ k,getT es k=(gL L (spec0 c A E AS ES) k).map (fun x=>.string (bs x)))
section
variable {c:FilT} {B5 B6:Nat} {vA vE:Value} {A E AS ES:Bs} {w0:World} {a0:Act} {L:Array Bool} {a:Act} {w:World} {M:Nat}
theorem sv_put (h57:a0.tmps.size=57) {M':Nat} (S:Slots 41 sD (sV c B5 B6 vA vE A E AS ES M) L a0 a) (i:Nat) (hi:i<41) (hs:L.size=41) (v:Value) (hv:(sD i).isSome=true→v=sV c B5 B6 vA vE A E AS ES M' i)
  (hV:∀ j,j<41→On L j→sV c B5 B6 vA vE A E AS ES M j=sV c B5 B6 vA vE A E AS ES M' j):Slots 41 sD (sV c B5 B6 vA vE A E AS ES M') (L.setIfInBounds i true) a0 (a.put (sD i) v):=by
 refine S.put i hi (by omega) (fun j d hj h1 h2=>sD_inj i hi j hj (by rw [h1]; simp) (by rw [h1,h2])) (fun d hd=>?_) v hv hV
 have:=sD_lt i hi
 rw [hd] at this
 rw [h57]
 simpa using this
/-- A step that puts nothing into the map. -/
theorem sv_quiet (h57:a0.tmps.size=57) (hs:L.size=41) (S:Slots 41 sD (sV c B5 B6 vA vE A E AS ES M) L a0 a) (hk:Kept w0 w) (hc:(∀ e∈insJ,On L e.1→On L 0)∧(On L 39→On L 0)∧(On L 40→On L 0))
  (hm:On L 0→w0.heap.size≤M∧∃ es,MapT w M es∧∀ k,getT es k=(gL L (spec0 c A E AS ES) k).map (fun x=>.string (bs x))) {w':World} (hkw:Kept w w')
  (i:Nat) (hi:i<41) (h0:i≠0) (hin:∀ e∈insJ,e.1≠i) (h39:i=39∨i=40→On L 0) (v:Value) (hv:v=sV c B5 B6 vA vE A E AS ES M i):SvI c B5 B6 vA vE A E AS ES w0 a0 (L.setIfInBounds i true) (a.put (sD i) v) w':=by
 obtain ⟨c1,c2,c3⟩:=hc
 refine ⟨by rw [Array.size_setIfInBounds]; exact hs,M,sv_put h57 S i hi hs v (fun _=>hv) (fun _ _ _=>rfl),hk.trans hkw,⟨fun e he h=>?_,fun h=>?_,fun h=>?_⟩,fun h=>?_⟩
 ·rcases on_set h with q | q
  ·exact absurd q (hin e he)
  ·exact on_mono (c1 e he q)
 ·rcases on_set h with q | q
  ·exact on_mono (h39 (.inl q.symm))
  ·exact on_mono (c2 q)
 ·rcases on_set h with q | q
  ·exact on_mono (h39 (.inr q.symm))
  ·exact on_mono (c3 q)
 ·rcases on_set h with q | q
  ·exact absurd q.symm h0
  ·obtain ⟨m1,es,m2,m3⟩:=hm q
   refine ⟨m1,es,m2.kept hkw,fun k=>?_⟩
   rw [m3 k]
   unfold gL
   rw [hasL_other L i hin k]
/-- A key is put in. -/
theorem sv_ins (h57:a0.tmps.size=57) (hs:L.size=41) (S:Slots 41 sD (sV c B5 B6 vA vE A E AS ES M) L a0 a) (hk:Kept w0 w) (hc:(∀ e∈insJ,On L e.1→On L 0)∧(On L 39→On L 0)∧(On L 40→On L 0))
  (hm:w0.heap.size≤M∧∃ es,MapT w M es∧∀ k,getT es k=(gL L (spec0 c A E AS ES) k).map (fun x=>.string (bs x))) (h0:On L 0)
  (i:Nat) (hi:i<41) (hD:sD i=none) (k x:Bs) (hmem:(i,k)∈insJ) (hu1:∀ e∈insJ,e.1=i→e.2=k) (hu2:∀ e∈insJ,e.2=k→e.1=i) (hn:L.getD i true=false) (hx:lookB (spec0 c A E AS ES) k=some x) (v:Value) :
  ∃ w',(Instr.mapUpdate 114 (.map (some M)) (.string (bs k)) (.string (bs x))).run Tryz.prog w=.ok () w'∧SvI c B5 B6 vA vE A E AS ES w0 a0 (L.setIfInBounds i true) (a.put none v) w':=by
 obtain ⟨m1,es,m2,m3⟩:=hm
 have hnone:getT es k=none:=by
  rw [m3 k]
  unfold gL
  rw [hasL_not L i k hu2 (not_on hn)]; rfl
 refine ⟨_,insT (P:=Tryz.prog) Tryz.underlying114 Tryz.underlying9 w M es k (.string (bs x)) m2 hnone,?_⟩
 obtain ⟨c1,c2,c3⟩:=hc
 refine ⟨by rw [Array.size_setIfInBounds]; exact hs,M,by rw [← hD]; exact sv_put h57 S i hi hs v (fun q=>by rw [hD] at q; cases q) (fun _ _ _=>rfl),only_kept hk (putT_only w M _) m1,⟨fun _ _ _=>on_mono h0,fun _=>on_mono h0,fun _=>on_mono h0⟩,fun _=>⟨m1,_,putT_map w M _ m2.lt,fun k'=>?_⟩⟩
 rw [getT_snoc hnone,m3 k']
 unfold gL
 rw [hasL_put L i k (by omega) hmem hu1 k']
 by_cases q:k'=k
 ·subst q
  rw [if_pos rfl,beq_self_eq_true,Bool.true_or,if_pos rfl,hx]; rfl
 ·have:(k' == k)=false:=by rw [beq_eq_false_iff_ne]; exact q
  rw [if_neg q,this,Bool.false_or]
end

theorem gL_all (L:Array Bool) {c:FilT} {A E AS ES:Bs} (h:∀ i,i<41→On L i) (k:Bs):gL L (spec0 c A E AS ES) k=lookB (spec0 c A E AS ES) k:=by
 unfold gL
 by_cases q:hasL L k=true
 ·rw [if_pos q]
 ·rw [if_neg q]
  cases hx:lookB (spec0 c A E AS ES) k with
  | none=>rfl
  | some x =>
   exfalso
   apply q
   unfold lookB at hx
   rw [Option.map_eq_some_iff] at hx
   obtain ⟨e,he,_⟩:=hx
   have h1:=List.find?_some he
   have h2:=List.mem_of_find?_eq_some he
   rw [beq_iff_eq] at h1
   unfold hasL
   rw [List.any_eq_true]
   have h3:∃ i,(i,e.1)∈insJ∧i<41:=by
    unfold spec0 at h2
    simp only [List.mem_cons,List.mem_nil_iff,or_false] at h2
    rcases h2 with rfl | rfl | rfl | rfl | rfl | rfl | rfl | rfl | rfl
    ·exact ⟨7,(by show (7,kAuthor)∈insJ; decide),by omega⟩
    ·exact ⟨14,(by show (14,kEditor)∈insJ; decide),by omega⟩
    ·exact ⟨21,(by show (21,kAuthors)∈insJ; decide),by omega⟩
    ·exact ⟨28,(by show (28,kEditors)∈insJ; decide),by omega⟩
    ·exact ⟨29,(by show (29,kYear)∈insJ; decide),by omega⟩
    ·exact ⟨31,(by show (31,kSuffix)∈insJ; decide),by omega⟩
    ·exact ⟨32,(by show (32,kNumber)∈insJ; decide),by omega⟩
    ·exact ⟨35,(by show (35,kKey)∈insJ; decide),by omega⟩
    ·exact ⟨38,(by show (38,kType)∈insJ; decide),by omega⟩
   obtain ⟨i,hi,hlt⟩:=h3
   refine ⟨(i,e.1),hi,?_⟩
   have:=h i hlt
   unfold On at this
   rw [Bool.and_eq_true,beq_iff_eq]
   exact ⟨h1,this⟩
theorem spec_look {c:FilT} {A E AS ES:Bs} (ys ns k:Bs):lookB (specOf (spec0 c A E AS ES) ys ns) k=if k=kYear then some ys else if k=kNumber then some ns else lookB (spec0 c A E AS ES) k:=by
 have e:specOf (spec0 c A E AS ES) ys ns=[(kAuthor,A),(kEditor,E),(kAuthors,AS),(kEditors,ES),(kYear,ys),(kSuffix,c.suffix),(kNumber,ns),(kKey,c.key),(kType,c.type)]:=rfl
 rw [e]
 by_cases q:k=kYear
 ·subst q; rfl
 ·rw [if_neg q]
  by_cases q2:k=kNumber
  ·subst q2; rfl
  ·rw [if_neg q2]
   have h1:(kYear == k)=false:=by rw [beq_eq_false_iff_ne]; exact fun e=>q e.symm
   have h2:(kNumber == k)=false:=by rw [beq_eq_false_iff_ne]; exact fun e=>q2 e.symm
   unfold lookB spec0
   simp only [List.find?_cons,h1,h2]
theorem yearL_range (v:Bs):0≤yearL v∧yearL v≤9999:=by
 unfold yearL
 split
 ·rename_i h
  have:=num_bound v h.1 h.2
  omega
 ·omega

theorem arr57 (l:Array Value) (h:l.size=57):∃ x0 x1 x2 x3 x4 x5 x6 x7 x8 x9 x10 x11 x12 x13 x14 x15 x16 x17 x18 x19 x20 x21 x22 x23 x24 x25 x26 x27 x28 x29 x30 x31 x32 x33 x34 x35 x36 x37 x38 x39 x40 x41 x42 x43 x44 x45 x46 x47 x48 x49 x50 x51 x52 x53 x54 x55 x56,l=#[x0,x1,x2,x3,x4,x5,x6,x7,x8,x9,x10,x11,x12,x13,x14,x15,x16,x17,x18,x19,x20,x21,x22,x23,x24,x25,x26,x27,x28,x29,x30,x31,x32,x33,x34,x35,x36,x37,x38,x39,x40,x41,x42,x43,x44,x45,x46,x47,x48,x49,x50,x51,x52,x53,x54,x55,x56]:=by
 obtain ⟨l0⟩:=l
 have h0:l0.length=57:=h
 clear h
 obtain ⟨x0,l1,rfl,h1⟩:=len_cons h0
 obtain ⟨x1,l2,rfl,h2⟩:=len_cons h1
 obtain ⟨x2,l3,rfl,h3⟩:=len_cons h2
 obtain ⟨x3,l4,rfl,h4⟩:=len_cons h3
 obtain ⟨x4,l5,rfl,h5⟩:=len_cons h4
 obtain ⟨x5,l6,rfl,h6⟩:=len_cons h5
 obtain ⟨x6,l7,rfl,h7⟩:=len_cons h6
 obtain ⟨x7,l8,rfl,h8⟩:=len_cons h7
 obtain ⟨x8,l9,rfl,h9⟩:=len_cons h8
 obtain ⟨x9,l10,rfl,h10⟩:=len_cons h9
 obtain ⟨x10,l11,rfl,h11⟩:=len_cons h10
 obtain ⟨x11,l12,rfl,h12⟩:=len_cons h11
 obtain ⟨x12,l13,rfl,h13⟩:=len_cons h12
 obtain ⟨x13,l14,rfl,h14⟩:=len_cons h13
 obtain ⟨x14,l15,rfl,h15⟩:=len_cons h14
 obtain ⟨x15,l16,rfl,h16⟩:=len_cons h15
 obtain ⟨x16,l17,rfl,h17⟩:=len_cons h16
 obtain ⟨x17,l18,rfl,h18⟩:=len_cons h17
 obtain ⟨x18,l19,rfl,h19⟩:=len_cons h18
 obtain ⟨x19,l20,rfl,h20⟩:=len_cons h19
 obtain ⟨x20,l21,rfl,h21⟩:=len_cons h20
 obtain ⟨x21,l22,rfl,h22⟩:=len_cons h21
 obtain ⟨x22,l23,rfl,h23⟩:=len_cons h22
 obtain ⟨x23,l24,rfl,h24⟩:=len_cons h23
 obtain ⟨x24,l25,rfl,h25⟩:=len_cons h24
 obtain ⟨x25,l26,rfl,h26⟩:=len_cons h25
 obtain ⟨x26,l27,rfl,h27⟩:=len_cons h26
 obtain ⟨x27,l28,rfl,h28⟩:=len_cons h27
 obtain ⟨x28,l29,rfl,h29⟩:=len_cons h28
 obtain ⟨x29,l30,rfl,h30⟩:=len_cons h29
 obtain ⟨x30,l31,rfl,h31⟩:=len_cons h30
 obtain ⟨x31,l32,rfl,h32⟩:=len_cons h31
 obtain ⟨x32,l33,rfl,h33⟩:=len_cons h32
 obtain ⟨x33,l34,rfl,h34⟩:=len_cons h33
 obtain ⟨x34,l35,rfl,h35⟩:=len_cons h34
 obtain ⟨x35,l36,rfl,h36⟩:=len_cons h35
 obtain ⟨x36,l37,rfl,h37⟩:=len_cons h36
 obtain ⟨x37,l38,rfl,h38⟩:=len_cons h37
 obtain ⟨x38,l39,rfl,h39⟩:=len_cons h38
 obtain ⟨x39,l40,rfl,h40⟩:=len_cons h39
 obtain ⟨x40,l41,rfl,h41⟩:=len_cons h40
 obtain ⟨x41,l42,rfl,h42⟩:=len_cons h41
 obtain ⟨x42,l43,rfl,h43⟩:=len_cons h42
 obtain ⟨x43,l44,rfl,h44⟩:=len_cons h43
 obtain ⟨x44,l45,rfl,h45⟩:=len_cons h44
 obtain ⟨x45,l46,rfl,h46⟩:=len_cons h45
 obtain ⟨x46,l47,rfl,h47⟩:=len_cons h46
 obtain ⟨x47,l48,rfl,h48⟩:=len_cons h47
 obtain ⟨x48,l49,rfl,h49⟩:=len_cons h48
 obtain ⟨x49,l50,rfl,h50⟩:=len_cons h49
 obtain ⟨x50,l51,rfl,h51⟩:=len_cons h50
 obtain ⟨x51,l52,rfl,h52⟩:=len_cons h51
 obtain ⟨x52,l53,rfl,h53⟩:=len_cons h52
 obtain ⟨x53,l54,rfl,h54⟩:=len_cons h53
 obtain ⟨x54,l55,rfl,h55⟩:=len_cons h54
 obtain ⟨x55,l56,rfl,h56⟩:=len_cons h55
 obtain ⟨x56,l57,rfl,h57⟩:=len_cons h56
 obtain rfl:=List.length_eq_zero_iff.1 h57
 exact ⟨x0,x1,x2,x3,x4,x5,x6,x7,x8,x9,x10,x11,x12,x13,x14,x15,x16,x17,x18,x19,x20,x21,x22,x23,x24,x25,x26,x27,x28,x29,x30,x31,x32,x33,x34,x35,x36,x37,x38,x39,x40,x41,x42,x43,x44,x45,x46,x47,x48,x49,x50,x51,x52,x53,x54,x55,x56,rfl⟩
/-- What values gives back. -/
def ValsP (sp:List (Bs × Bs)) (w:World) (e:Ending) (w':World):Prop:=∃ m es,e=.returned (.map (some m))∧w.heap.size≤m∧MapT w' m es∧(∀ k,getT es k=(lookB sp k).map (fun x=>.string (bs x)))∧Kept w w'
set_option maxRecDepth 100000 in
set_option maxHeartbeats 12800000 in
theorem svals_any (c:FilT) (vA vE vF vY:Value) (y:StyT) (w:World) (hy:y.most=c.most) (hA:Perss w vA c.author) (hE:Perss w vE c.editor) (hF:Prs w vF c.fields) (hT:Lib.TabIs Tryz.prog w "internal/strconv.uint64pow10" .u64 Lib.pow10Tab) (hs:FitF c) :
  Calls Tryz.prog 61 #[srcV c.key c.type vA vE vF,styV vY y,.string (bs c.lang),.string (bs c.suffix),.int .i64 c.number] w (ValsP (specL c) w):=by
 have HA:=Lib.hid hA
 have HE:=Lib.hid hE
 have HF:=Lib.hid hF
 have HT:=Lib.hid hT
 obtain ⟨f1,f2,f3,f4,f5,f6,f7,f8⟩:=hs
 obtain ⟨A,HPA⟩:∃ A,Hid (plistL c.author c.lang c.most false=A):=⟨_,rfl⟩
 obtain ⟨E,HPE⟩:∃ A,Hid (plistL c.editor c.lang c.most false=A):=⟨_,rfl⟩
 obtain ⟨AS,HPAS⟩:∃ A,Hid (plistL c.author c.lang c.most true=A):=⟨_,rfl⟩
 obtain ⟨ES,HPES⟩:∃ A,Hid (plistL c.editor c.lang c.most true=A):=⟨_,rfl⟩
 have HLA:Hid (∀ w',Kept w w'→Calls Tryz.prog 119 #[vA,.string (bs c.lang),.int .i64 c.most,.bool false] w' fun e w''=>e=.returned (.string (bs A))∧Kept w' w''):=fun w' k=>by rw [← HPA.out]; exact plist_any vA c.author c.lang c.most false w' (HA.out.kept k) f1 f3 f5
 have HLE:Hid (∀ w',Kept w w'→Calls Tryz.prog 119 #[vE,.string (bs c.lang),.int .i64 c.most,.bool false] w' fun e w''=>e=.returned (.string (bs E))∧Kept w' w''):=fun w' k=>by rw [← HPE.out]; exact plist_any vE c.editor c.lang c.most false w' (HE.out.kept k) f2 f4 f5
 have HLAS:Hid (∀ w',Kept w w'→Calls Tryz.prog 119 #[vA,.string (bs c.lang),.int .i64 c.most,.bool true] w' fun e w''=>e=.returned (.string (bs AS))∧Kept w' w''):=fun w' k=>by rw [← HPAS.out]; exact plist_any vA c.author c.lang c.most true w' (HA.out.kept k) f1 f3 f5
 have HLES:Hid (∀ w',Kept w w'→Calls Tryz.prog 119 #[vE,.string (bs c.lang),.int .i64 c.most,.bool true] w' fun e w''=>e=.returned (.string (bs ES))∧Kept w' w''):=fun w' k=>by rw [← HPES.out]; exact plist_any vE c.editor c.lang c.most true w' (HE.out.kept k) f2 f4 f5
 have HY:=Lib.hid (fun w hv=>year_wide c.key c.type vA vE vF c.fields w hv f6 f7)
 have HSPL:Hid (specL c=specOf (spec0 c A E AS ES) (yearS c) (numS c)):=by
  show _=_
  rw [← HPA.out,← HPE.out,← HPAS.out,← HPES.out]; rfl
 clear hA hE hF hT HPA HPE HPAS HPES
 unfold styV styCells srcV
 have HS0:=Lib.hid (Blk.new w 50 #[.string (bs c.key),.string (bs c.type),vA,vE,vF])
 have HK0:=Lib.hid (kept_alloc w (.cells #[.string (bs c.key),.string (bs c.type),vA,vE,vF] 50))
 have HS1:=Lib.hid (Blk.new (w.alloc (.cells #[.string (bs c.key),.string (bs c.type),vA,vE,vF] 50)) 33 (styCells vY y))
 have HK1:=Lib.hid (kept_alloc (w.alloc (.cells #[.string (bs c.key),.string (bs c.type),vA,vE,vF] 50)) (.cells (styCells vY y) 33))
 unfold styCells at HS1 HK1
 go_enter Tryz.func61,Tryz.ntmps61
 go_wp2_with fail
 have e1:(w.alloc (.cells #[.string (bs c.key),.string (bs c.type),vA,vE,vF] 50)).heap.size=w.heap.size+1:=by simp
 rw [e1,hy] at HS1
 rw [hy] at HK1
 have HSA:=Lib.hid (HS0.out.kept HK1.out)
 have HKW:=Lib.hid (HK0.out.trans HK1.out)
 clear HS0 HK0 HK1 e1
 rw [hy]
 generalize ha0:Act.mk _ _=a0
 generalize World.alloc (World.alloc _ _) _=w0 at HS1 HSA HKW ⊢
 obtain ⟨B5,HB5⟩:∃ B,Hid (w.heap.size=B):=⟨_,rfl⟩
 rw [HB5.out] at HS1 HSA
 have h57:a0.tmps.size=57:=by rw [← ha0]; rfl
 have h5:a0.eval (.tmp 5)=.pointer (some ⟨B5,0,none⟩):=by rw [← ha0,← HB5.out]; rfl
 have h6:a0.eval (.tmp 6)=.pointer (some ⟨B5+1,0,none⟩):=by rw [← ha0,← HB5.out]; rfl
 have h2:a0.eval (.tmp 2)=.string (bs c.lang):=by rw [← ha0]; rfl
 have h3:a0.eval (.tmp 3)=.string (bs c.suffix):=by rw [← ha0]; rfl
 refine wp_region_inv (SvI c B5 (B5+1) vA vE A E AS ES w0 a0) (by kernel_rfl) (ac_of (by kernel_rfl)) ?_ ?_ ?_
 ·have hno:∀ i,¬ On (Array.replicate 41 false) i:=fun i=>not_on_start 41 i
  exact ⟨by rfl,0,Slots.start 41 sD _ 41 a0,kept_drewN w0 1,⟨fun e _ h=>absurd h (hno _),fun h=>absurd h (hno _),fun h=>absurd h (hno _)⟩,fun h=>absurd h (hno _)⟩
 ·intro L a w1 hI hall
  obtain ⟨hs,M,S,hkm,hc,hm⟩:=hI
  have hon:∀ i,i<41→On L i:=fun i hi=>by
   have:=hall i hi
   have hlt:i<L.size:=by omega
   unfold On
   rw [Array.getD_eq_getD_getElem?,Array.getElem?_eq_getElem hlt] at this ⊢
   exact this
  obtain ⟨m1,es,m2,m3⟩:=hm (hon 0 (by omega))
  have HM:=Lib.hid m2
  have HG0:Hid (∀ k,getT es k=(lookB (spec0 c A E AS ES) k).map (fun x=>.string (bs x))):=fun k=>by rw [m3 k,gL_all L hon]
  obtain ⟨x0,x1,x2,x3,x4,x5,x6,x7,x8,x9,x10,x11,x12,x13,x14,x15,x16,x17,x18,x19,x20,x21,x22,x23,x24,x25,x26,x27,x28,x29,x30,x31,x32,x33,x34,x35,x36,x37,x38,x39,x40,x41,x42,x43,x44,x45,x46,x47,x48,x49,x50,x51,x52,x53,x54,x55,x56,hx⟩:=arr57 a.tmps (S.size.trans h57)
  have e5:some x5=some (.pointer (some ⟨w.heap.size,0,none⟩)):=by
   have h:=S.rest 5 (by decide +kernel)
   rw [hx,← ha0] at h
   exact h
  have e4:some x4=some (.int .i64 c.number):=by
   have h:=S.rest 4 (by decide +kernel)
   rw [hx,← ha0] at h
   exact h
  have e11:some x11=some (.map (some M)):=by
   have h:=S.val 40 11 (by omega) rfl (hon 40 (by omega))
   rw [hx] at h
   exact h
  have hdf:a.defers=[]:=S.defers.trans (by rw [← ha0])
  rw [HB5.out] at e5
  have e4':=Option.some.inj e4
  have e5':=Option.some.inj e5
  have e11':=Option.some.inj e11
  obtain ⟨tm,df⟩:=a
  simp only at hx hdf
  subst hx hdf e4' e5' e11'
  have HKM:=Lib.hid hkm
  have HKW1:=Lib.hid (HKW.out.trans hkm)
  have hMz:w.heap.size≤M:=Nat.le_trans HKW.out.size m1
  have HSA1:=Lib.hid (HSA.out.kept hkm)
  have HF1:=Lib.hid (HF.out.kept (HKW.out.trans hkm))
  clear S hc hm hkm hon hall hs m1 m2 m3 e4 e5 e11 ha0 h57 h5 h6 h2 h3 HLA HLE HLAS HLES HA HE HSA HS1 HF
  have t0:w1.cell? ⟨B5,0,none⟩=some (.string (bs c.key)):=HSA1.out.cell 0 _ rfl
  have t1:w1.cell? ⟨B5,1,none⟩=some (.string (bs c.type)):=HSA1.out.cell 1 _ rfl
  have t2:w1.cell? ⟨B5,2,none⟩=some vA:=HSA1.out.cell 2 _ rfl
  have t3:w1.cell? ⟨B5,3,none⟩=some vE:=HSA1.out.cell 3 _ rfl
  have t4:w1.cell? ⟨B5,4,none⟩=some vF:=HSA1.out.cell 4 _ rfl
  have hYN:Hid (yearL ((fieldL c.fields [121,101,97,114]).getD [])=yearN c):=rfl
  have hyb:=yearL_range ((fieldL c.fields [121,101,97,114]).getD [])
  rw [hYN.out] at HY hyb
  go_wp2_with fail
  refine (HY.out _ HF1.out).mono ?_
  rintro e w2 ⟨rfl,hk2⟩
  have HKW2:=Lib.hid (HKW1.out.trans hk2)
  have HM2:=Lib.hid (HM.out.kept hk2)
  clear hk2 t0 t1 t2 t3 t4 HM HKW1 HSA1 HF1 HY f1 f2 f3 f4 f5 f6 f7
  obtain ⟨f8a,f8b⟩:=f8
  have HIY:=Lib.hid (fun w h=>itoa_any (yearN c) w (by omega) (by omega) h)
  have HIN:=Lib.hid (fun w h=>itoa_any c.number w (by omega) (by omega) h)
  have HYZ:Hid (yearN c=0→yearS c=[]):=fun h=>by unfold yearS; rw [if_pos h]
  have HYY:Hid (yearN c≠0→yearS c=Lib.itoa (yearN c)):=fun h=>by unfold yearS; rw [if_neg h]
  have HNZ:Hid (c.number<1→numS c=[]):=fun h=>by unfold numS; rw [if_pos h]
  have HNN:Hid (¬ c.number<1→numS c=Lib.itoa c.number):=fun h=>by unfold numS; rw [if_neg h]
  have HGY:Hid (getT es kYear=some (.string (bs []))):=by show _=_; rw [HG0.out]; rfl
  have HGN:Hid (getT es kNumber=some (.string (bs []))):=by show _=_; rw [HG0.out]; rfl
  have HFIN:Hid (∀ es1 es2,(∀ k,getT es1 k=if k=kYear then some (.string (bs (yearS c))) else getT es k)→(∀ k,getT es2 k=if k=kNumber then some (.string (bs (numS c))) else getT es1 k)→∀ k,getT es2 k=(lookB (specL c) k).map (fun x=>.string (bs x))):=fun es1 es2 h1 h2 k=>by
   rw [HSPL.out,spec_look,h2 k,h1 k,HG0.out k]
   by_cases q:k=kYear
   ·subst q; rfl
   ·by_cases q2:k=kNumber
    ·rw [if_pos q2,if_neg q,if_pos q2]; rfl
    ·rw [if_neg q2,if_neg q,if_neg q,if_neg q2]
  have HONE:Hid (∀ (es1:List (Bs × Value)) (key v:Bs),getT es1 key=some (.string (bs v))→∀ k,getT es1 k=if k=key then some (.string (bs v)) else getT es1 k):=fun es1 key v h k=>by
   by_cases q:k=key
   ·rw [if_pos q,q,h]
   ·rw [if_neg q]
  have HSEP:Hid (∀ es1,(∀ k,getT es1 k=if k=kYear then some (.string (bs (yearS c))) else getT es k)→getT es1 kNumber=some (.string (bs []))):=fun es1 h=>by rw [h kNumber,if_neg (by decide)]; exact HGN.out
  clear HSPL HG0 HGN hYN hyb
  generalize yearS c=ys at *
  generalize numS c=ns at *
  generalize specL c=sp at *
  generalize Lib.itoa (yearN c)=iy at *
  generalize Lib.itoa c.number=inn at *
  generalize yearN c=n at *
  by_cases hn:n=0
  ·obtain rfl:=HYZ.out hn
   have HE1:=Lib.hid (HONE.out es kYear [] HGY.out)
   have HN1:=Lib.hid (HSEP.out es HE1.out)
   have hn':(n == 0)=true:=by rw [hn]; rfl
   clear hn
   by_cases hm:c.number<1
   ·obtain rfl:=HNZ.out hm
    have HE2:=Lib.hid (HFIN.out es es HE1.out (HONE.out es kNumber [] HN1.out))
    clear HE1 HN1 HFIN HONE HSEP HYZ HYY HNZ HNN HGY
    go_wp2_with fail
    go_ret
    exact ⟨_,es,rfl,hMz,HM2.out,HE2.out,HKW2.out⟩
   ·obtain rfl:=HNN.out (by omega)
    have HT2:=Lib.hid (tab_kept HT.out HKW2.out)
    go_wp2_with fail
    refine (HIN.out _ HT2.out).mono ?_
    rintro e w3 ⟨rfl,hk3⟩
    have HKW3:=Lib.hid (HKW2.out.trans hk3)
    have HM3:=Lib.hid (HM2.out.kept hk3)
    obtain ⟨es2,hes2,hup⟩:=overT (P:=Tryz.prog) Tryz.underlying114 Tryz.underlying9 w3 M es kNumber (.string (bs ns)) _ HM3.out HN1.out
    have HE2:=Lib.hid (HFIN.out es es2 HE1.out hes2)
    have HM4:=Lib.hid (putT_map w3 M es2 HM3.out.lt)
    have HKW4:=Lib.hid (only_kept HKW3.out (putT_only w3 M es2) hMz)
    unfold kNumber at hup
    clear hes2 HE1 HN1 HFIN HONE HSEP HYZ HYY HNZ HNN HGY hk3
    go_wp2_with fail
    go_ret
    exact ⟨_,es2,rfl,hMz,HM4.out,HE2.out,HKW4.out⟩
  ·obtain rfl:=HYY.out hn
   have HT2:=Lib.hid (tab_kept HT.out HKW2.out)
   have hn':(n == 0)=false:=by rw [beq_eq_false_iff_ne]; exact hn
   clear hn
   go_wp2_with fail
   refine (HIY.out _ HT2.out).mono ?_
   rintro e w3 ⟨rfl,hk3⟩
   have HKW3:=Lib.hid (HKW2.out.trans hk3)
   have HM3:=Lib.hid (HM2.out.kept hk3)
   obtain ⟨es1,hes1,hup⟩:=overT (P:=Tryz.prog) Tryz.underlying114 Tryz.underlying9 w3 M es kYear (.string (bs ys)) _ HM3.out HGY.out
   have HE1:=Lib.hid hes1
   have HN1:=Lib.hid (HSEP.out es1 hes1)
   have HM4:=Lib.hid (putT_map w3 M es1 HM3.out.lt)
   have HKW4:=Lib.hid (only_kept HKW3.out (putT_only w3 M es1) hMz)
   unfold kYear at hup
   clear hes1 hk3
   by_cases hm:c.number<1
   ·obtain rfl:=HNZ.out hm
    have HE2:=Lib.hid (HFIN.out es1 es1 HE1.out (HONE.out es1 kNumber [] HN1.out))
    clear HE1 HN1 HFIN HONE HSEP HYZ HYY HNZ HNN HGY
    go_wp2_with fail
    go_ret
    exact ⟨_,es1,rfl,hMz,HM4.out,HE2.out,HKW4.out⟩
   ·obtain rfl:=HNN.out (by omega)
    have HT4:=Lib.hid (tab_kept HT.out HKW4.out)
    go_wp2_with fail
    clear hup
    generalize putT w3 M es1=w4 at *
    refine (HIN.out _ HT4.out).mono ?_
    rintro e w5 ⟨rfl,hk5⟩
    have HKW5:=Lib.hid (HKW4.out.trans hk5)
    have HM5:=Lib.hid (HM4.out.kept hk5)
    obtain ⟨es2,hes2,hup⟩:=overT (P:=Tryz.prog) Tryz.underlying114 Tryz.underlying9 w5 M es1 kNumber (.string (bs ns)) _ HM5.out HN1.out
    have HE2:=Lib.hid (HFIN.out es1 es2 HE1.out hes2)
    have HM6:=Lib.hid (putT_map w5 M es2 HM5.out.lt)
    have HKW6:=Lib.hid (only_kept HKW5.out (putT_only w5 M es2) hMz)
    unfold kNumber at hup
    clear hes2 HE1 HN1 HFIN HONE HSEP HYZ HYY HNZ HNN HGY hk5
    go_wp2_with fail
    go_ret
    exact ⟨_,es2,rfl,hMz,HM6.out,HE2.out,HKW6.out⟩
 ·intro L a w1 i hI hi hn hed
  obtain ⟨hs,M,S,hkm,hc,hm⟩:=hI
  have q5:=(S.ext 5 (by decide +kernel)).trans h5
  have q6:=(S.ext 6 (by decide +kernel)).trans h6
  have q2:=(S.ext 2 (by decide +kernel)).trans h2
  have q3:=(S.ext 3 (by decide +kernel)).trans h3
  have t0:w1.cell? ⟨B5,0,none⟩=some (.string (bs c.key)):=(HSA.out.kept hkm).cell 0 _ rfl
  have t1:w1.cell? ⟨B5,1,none⟩=some (.string (bs c.type)):=(HSA.out.kept hkm).cell 1 _ rfl
  have t2:w1.cell? ⟨B5,2,none⟩=some vA:=(HSA.out.kept hkm).cell 2 _ rfl
  have t3:w1.cell? ⟨B5,3,none⟩=some vE:=(HSA.out.kept hkm).cell 3 _ rfl
  have t8:w1.cell? ⟨B5+1,8,none⟩=some (.int .i64 c.most):=(HS1.out.kept hkm).cell 8 _ rfl
  replace hi:i<41:=hi
  obtain rfl | rfl | rfl | rfl | rfl | rfl | rfl | rfl | rfl | rfl | rfl | rfl | rfl | rfl | rfl | rfl | rfl | rfl | rfl | rfl | rfl | rfl | rfl | rfl | rfl | rfl | rfl | rfl | rfl | rfl | rfl | rfl | rfl | rfl | rfl | rfl | rfl | rfl | rfl | rfl | rfl:i=0∨i=1∨i=2∨i=3∨i=4∨i=5∨i=6∨i=7∨i=8∨i=9∨i=10∨i=11∨i=12∨i=13∨i=14∨i=15∨i=16∨i=17∨i=18∨i=19∨i=20∨i=21∨i=22∨i=23∨i=24∨i=25∨i=26∨i=27∨i=28∨i=29∨i=30∨i=31∨i=32∨i=33∨i=34∨i=35∨i=36∨i=37∨i=38∨i=39∨i=40:=by omega
  ·have n0:=not_on hn
   obtain ⟨c1,c2,c3⟩:=hc
   refine step_value (o:=_) rfl rfl (v:=.map (some w1.heap.size)) (w':=w1.alloc (.map #[] 0)) ?_ ?_
   ·have:=run_makeMap (P:=Tryz.prog) 114 w1
    simp only [execOp,List.getElem_toArray,List.getElem_cons_succ,List.getElem_cons_zero]; simp [go_sem,this]
   refine ⟨by rw [Array.size_setIfInBounds]; exact hs,w1.heap.size,sv_put h57 S 0 (by omega) hs _ (fun _=>rfl) (fun j hj ho=>sV_M j (fun q=>n0 (q ▸ ho)) (fun q=>n0 (c2 (q ▸ ho))) (fun q=>n0 (c3 (q ▸ ho)))),hkm.trans (kept_alloc _ _),⟨fun _ _ _=>on_same (by omega),fun _=>on_same (by omega),fun _=>on_same (by omega)⟩,fun _=>⟨hkm.size,[],MapT.made w1,fun k=>?_⟩⟩
   have hz:hasL (L.setIfInBounds 0 true) k=false:=by
    rw [hasL_other L 0 (by decide) k]
    unfold hasL
    rw [List.any_eq_false]
    intro e he h
    rw [Bool.and_eq_true] at h
    exact n0 (c1 e he h.2)
   unfold gL
   rw [hz]; rfl
  ·refine step_value (o:=_) rfl rfl (v:=.pointer (some ⟨B5,2,none⟩)) (w':=w1) ?_ (sv_quiet h57 hs S hkm hc hm (Kept.refl _) 1 (by omega) (by omega) (by decide) (fun q=>by omega) _ rfl)
   simp only [execOp,List.getElem_toArray,List.getElem_cons_succ,List.getElem_cons_zero,q5]
   simp [go_sem]
  ·have z14:=S.eval 1 14 (by omega) rfl (hed _ rfl ⟨1,.data⟩ (by simp) rfl)
   refine step_value (o:=_) rfl rfl (v:=vA) (w':=w1) ?_ (sv_quiet h57 hs S hkm hc hm (Kept.refl _) 2 (by omega) (by omega) (by decide) (fun q=>by omega) _ rfl)
   simp only [execOp,List.getElem_toArray,List.getElem_cons_succ,List.getElem_cons_zero,z14,sV]
   simp [t2,go_sem]
  ·refine step_value (o:=_) rfl rfl (v:=.string (bs c.lang)) (w':=w1) ?_ (sv_quiet h57 hs S hkm hc hm (Kept.refl _) 3 (by omega) (by omega) (by decide) (fun q=>by omega) _ rfl)
   simp only [execOp,List.getElem_toArray,List.getElem_cons_succ,List.getElem_cons_zero,q2]
   (try simp [go_sem])
  ·refine step_value (o:=_) rfl rfl (v:=.pointer (some ⟨B5+1,8,none⟩)) (w':=w1) ?_ (sv_quiet h57 hs S hkm hc hm (Kept.refl _) 4 (by omega) (by omega) (by decide) (fun q=>by omega) _ rfl)
   simp only [execOp,List.getElem_toArray,List.getElem_cons_succ,List.getElem_cons_zero,q6]
   simp [go_sem]
  ·have z17:=S.eval 4 17 (by omega) rfl (hed _ rfl ⟨4,.data⟩ (by simp) rfl)
   refine step_value (o:=_) rfl rfl (v:=.int .i64 c.most) (w':=w1) ?_ (sv_quiet h57 hs S hkm hc hm (Kept.refl _) 5 (by omega) (by omega) (by decide) (fun q=>by omega) _ rfl)
   simp only [execOp,List.getElem_toArray,List.getElem_cons_succ,List.getElem_cons_zero,z17,sV]
   simp [t8,go_sem]
  ·have z15:=S.eval 2 15 (by omega) rfl (hed _ rfl ⟨2,.data⟩ (by simp) rfl)
   have z16:=S.eval 3 16 (by omega) rfl (hed _ rfl ⟨3,.data⟩ (by simp) rfl)
   have z18:=S.eval 5 18 (by omega) rfl (hed _ rfl ⟨5,.data⟩ (by simp) rfl)
   refine step_enter (o:=_) rfl rfl (f:=119) (args:=#[vA,.string (bs c.lang),.int .i64 c.most,.bool false]) (w':=w1) ?_ ((HLA.out w1 (HKW.out.trans hkm)).mono fun e w2 ⟨he,hk2⟩=>⟨_,he,(sv_quiet h57 hs S hkm hc hm hk2 6 (by omega) (by omega) (by decide) (fun q=>by omega) _ rfl)⟩)
   simp only [execOp,List.getElem_toArray,List.getElem_cons_succ,List.getElem_cons_zero,resolve,List.map_toArray,List.map_cons,List.map_nil,z15,z16,z18,sV]
   simp [go_sem]
  ·have o0:On L 0:=hed _ rfl ⟨0,.data⟩ (by simp) rfl
   have z13:=S.eval 0 13 (by omega) rfl o0
   have z19:=S.eval 6 19 (by omega) rfl (hed _ rfl ⟨6,.data⟩ (by simp) rfl)
   obtain ⟨w2,hr,hI2⟩:=sv_ins h57 hs S hkm hc (hm o0) o0 7 (by omega) rfl [97,117,116,104,111,114] A (by decide) (by decide) (by decide) hn rfl undef
   refine step_skip (o:=_) rfl rfl (w':=w2) ?_ hI2
   simp only [execOp,List.getElem_toArray,List.getElem_cons_succ,List.getElem_cons_zero,z13,z19,sV]
   simp [go_sem,mk_bs,hr]
  ·refine step_value (o:=_) rfl rfl (v:=.pointer (some ⟨B5,3,none⟩)) (w':=w1) ?_ (sv_quiet h57 hs S hkm hc hm (Kept.refl _) 8 (by omega) (by omega) (by decide) (fun q=>by omega) _ rfl)
   simp only [execOp,List.getElem_toArray,List.getElem_cons_succ,List.getElem_cons_zero,q5]
   simp [go_sem]
  ·have z20:=S.eval 8 20 (by omega) rfl (hed _ rfl ⟨8,.data⟩ (by simp) rfl)
   refine step_value (o:=_) rfl rfl (v:=vE) (w':=w1) ?_ (sv_quiet h57 hs S hkm hc hm (Kept.refl _) 9 (by omega) (by omega) (by decide) (fun q=>by omega) _ rfl)
   simp only [execOp,List.getElem_toArray,List.getElem_cons_succ,List.getElem_cons_zero,z20,sV]
   simp [t3,go_sem]
  ·refine step_value (o:=_) rfl rfl (v:=.string (bs c.lang)) (w':=w1) ?_ (sv_quiet h57 hs S hkm hc hm (Kept.refl _) 10 (by omega) (by omega) (by decide) (fun q=>by omega) _ rfl)
   simp only [execOp,List.getElem_toArray,List.getElem_cons_succ,List.getElem_cons_zero,q2]
   (try simp [go_sem])
  ·refine step_value (o:=_) rfl rfl (v:=.pointer (some ⟨B5+1,8,none⟩)) (w':=w1) ?_ (sv_quiet h57 hs S hkm hc hm (Kept.refl _) 11 (by omega) (by omega) (by decide) (fun q=>by omega) _ rfl)
   simp only [execOp,List.getElem_toArray,List.getElem_cons_succ,List.getElem_cons_zero,q6]
   simp [go_sem]
  ·have z23:=S.eval 11 23 (by omega) rfl (hed _ rfl ⟨11,.data⟩ (by simp) rfl)
   refine step_value (o:=_) rfl rfl (v:=.int .i64 c.most) (w':=w1) ?_ (sv_quiet h57 hs S hkm hc hm (Kept.refl _) 12 (by omega) (by omega) (by decide) (fun q=>by omega) _ rfl)
   simp only [execOp,List.getElem_toArray,List.getElem_cons_succ,List.getElem_cons_zero,z23,sV]
   simp [t8,go_sem]
  ·have z21:=S.eval 9 21 (by omega) rfl (hed _ rfl ⟨9,.data⟩ (by simp) rfl)
   have z22:=S.eval 10 22 (by omega) rfl (hed _ rfl ⟨10,.data⟩ (by simp) rfl)
   have z24:=S.eval 12 24 (by omega) rfl (hed _ rfl ⟨12,.data⟩ (by simp) rfl)
   refine step_enter (o:=_) rfl rfl (f:=119) (args:=#[vE,.string (bs c.lang),.int .i64 c.most,.bool false]) (w':=w1) ?_ ((HLE.out w1 (HKW.out.trans hkm)).mono fun e w2 ⟨he,hk2⟩=>⟨_,he,(sv_quiet h57 hs S hkm hc hm hk2 13 (by omega) (by omega) (by decide) (fun q=>by omega) _ rfl)⟩)
   simp only [execOp,List.getElem_toArray,List.getElem_cons_succ,List.getElem_cons_zero,resolve,List.map_toArray,List.map_cons,List.map_nil,z21,z22,z24,sV]
   simp [go_sem]
  ·have o0:On L 0:=hed _ rfl ⟨0,.data⟩ (by simp) rfl
   have z13:=S.eval 0 13 (by omega) rfl o0
   have z25:=S.eval 13 25 (by omega) rfl (hed _ rfl ⟨13,.data⟩ (by simp) rfl)
   obtain ⟨w2,hr,hI2⟩:=sv_ins h57 hs S hkm hc (hm o0) o0 14 (by omega) rfl [101,100,105,116,111,114] E (by decide) (by decide) (by decide) hn rfl undef
   refine step_skip (o:=_) rfl rfl (w':=w2) ?_ hI2
   simp only [execOp,List.getElem_toArray,List.getElem_cons_succ,List.getElem_cons_zero,z13,z25,sV]
   simp [go_sem,mk_bs,hr]
  ·refine step_value (o:=_) rfl rfl (v:=.pointer (some ⟨B5,2,none⟩)) (w':=w1) ?_ (sv_quiet h57 hs S hkm hc hm (Kept.refl _) 15 (by omega) (by omega) (by decide) (fun q=>by omega) _ rfl)
   simp only [execOp,List.getElem_toArray,List.getElem_cons_succ,List.getElem_cons_zero,q5]
   simp [go_sem]
  ·have z26:=S.eval 15 26 (by omega) rfl (hed _ rfl ⟨15,.data⟩ (by simp) rfl)
   refine step_value (o:=_) rfl rfl (v:=vA) (w':=w1) ?_ (sv_quiet h57 hs S hkm hc hm (Kept.refl _) 16 (by omega) (by omega) (by decide) (fun q=>by omega) _ rfl)
   simp only [execOp,List.getElem_toArray,List.getElem_cons_succ,List.getElem_cons_zero,z26,sV]
   simp [t2,go_sem]
  ·refine step_value (o:=_) rfl rfl (v:=.string (bs c.lang)) (w':=w1) ?_ (sv_quiet h57 hs S hkm hc hm (Kept.refl _) 17 (by omega) (by omega) (by decide) (fun q=>by omega) _ rfl)
   simp only [execOp,List.getElem_toArray,List.getElem_cons_succ,List.getElem_cons_zero,q2]
   (try simp [go_sem])
  ·refine step_value (o:=_) rfl rfl (v:=.pointer (some ⟨B5+1,8,none⟩)) (w':=w1) ?_ (sv_quiet h57 hs S hkm hc hm (Kept.refl _) 18 (by omega) (by omega) (by decide) (fun q=>by omega) _ rfl)
   simp only [execOp,List.getElem_toArray,List.getElem_cons_succ,List.getElem_cons_zero,q6]
   simp [go_sem]
  ·have z29:=S.eval 18 29 (by omega) rfl (hed _ rfl ⟨18,.data⟩ (by simp) rfl)
   refine step_value (o:=_) rfl rfl (v:=.int .i64 c.most) (w':=w1) ?_ (sv_quiet h57 hs S hkm hc hm (Kept.refl _) 19 (by omega) (by omega) (by decide) (fun q=>by omega) _ rfl)
   simp only [execOp,List.getElem_toArray,List.getElem_cons_succ,List.getElem_cons_zero,z29,sV]
   simp [t8,go_sem]
  ·have z27:=S.eval 16 27 (by omega) rfl (hed _ rfl ⟨16,.data⟩ (by simp) rfl)
   have z28:=S.eval 17 28 (by omega) rfl (hed _ rfl ⟨17,.data⟩ (by simp) rfl)
   have z30:=S.eval 19 30 (by omega) rfl (hed _ rfl ⟨19,.data⟩ (by simp) rfl)
   refine step_enter (o:=_) rfl rfl (f:=119) (args:=#[vA,.string (bs c.lang),.int .i64 c.most,.bool true]) (w':=w1) ?_ ((HLAS.out w1 (HKW.out.trans hkm)).mono fun e w2 ⟨he,hk2⟩=>⟨_,he,(sv_quiet h57 hs S hkm hc hm hk2 20 (by omega) (by omega) (by decide) (fun q=>by omega) _ rfl)⟩)
   simp only [execOp,List.getElem_toArray,List.getElem_cons_succ,List.getElem_cons_zero,resolve,List.map_toArray,List.map_cons,List.map_nil,z27,z28,z30,sV]
   simp [go_sem]
  ·have o0:On L 0:=hed _ rfl ⟨0,.data⟩ (by simp) rfl
   have z13:=S.eval 0 13 (by omega) rfl o0
   have z31:=S.eval 20 31 (by omega) rfl (hed _ rfl ⟨20,.data⟩ (by simp) rfl)
   obtain ⟨w2,hr,hI2⟩:=sv_ins h57 hs S hkm hc (hm o0) o0 21 (by omega) rfl [97,117,116,104,111,114,115] AS (by decide) (by decide) (by decide) hn rfl undef
   refine step_skip (o:=_) rfl rfl (w':=w2) ?_ hI2
   simp only [execOp,List.getElem_toArray,List.getElem_cons_succ,List.getElem_cons_zero,z13,z31,sV]
   simp [go_sem,mk_bs,hr]
  ·refine step_value (o:=_) rfl rfl (v:=.pointer (some ⟨B5,3,none⟩)) (w':=w1) ?_ (sv_quiet h57 hs S hkm hc hm (Kept.refl _) 22 (by omega) (by omega) (by decide) (fun q=>by omega) _ rfl)
   simp only [execOp,List.getElem_toArray,List.getElem_cons_succ,List.getElem_cons_zero,q5]
   simp [go_sem]
  ·have z32:=S.eval 22 32 (by omega) rfl (hed _ rfl ⟨22,.data⟩ (by simp) rfl)
   refine step_value (o:=_) rfl rfl (v:=vE) (w':=w1) ?_ (sv_quiet h57 hs S hkm hc hm (Kept.refl _) 23 (by omega) (by omega) (by decide) (fun q=>by omega) _ rfl)
   simp only [execOp,List.getElem_toArray,List.getElem_cons_succ,List.getElem_cons_zero,z32,sV]
   simp [t3,go_sem]
  ·refine step_value (o:=_) rfl rfl (v:=.string (bs c.lang)) (w':=w1) ?_ (sv_quiet h57 hs S hkm hc hm (Kept.refl _) 24 (by omega) (by omega) (by decide) (fun q=>by omega) _ rfl)
   simp only [execOp,List.getElem_toArray,List.getElem_cons_succ,List.getElem_cons_zero,q2]
   (try simp [go_sem])
  ·refine step_value (o:=_) rfl rfl (v:=.pointer (some ⟨B5+1,8,none⟩)) (w':=w1) ?_ (sv_quiet h57 hs S hkm hc hm (Kept.refl _) 25 (by omega) (by omega) (by decide) (fun q=>by omega) _ rfl)
   simp only [execOp,List.getElem_toArray,List.getElem_cons_succ,List.getElem_cons_zero,q6]
   simp [go_sem]
  ·have z35:=S.eval 25 35 (by omega) rfl (hed _ rfl ⟨25,.data⟩ (by simp) rfl)
   refine step_value (o:=_) rfl rfl (v:=.int .i64 c.most) (w':=w1) ?_ (sv_quiet h57 hs S hkm hc hm (Kept.refl _) 26 (by omega) (by omega) (by decide) (fun q=>by omega) _ rfl)
   simp only [execOp,List.getElem_toArray,List.getElem_cons_succ,List.getElem_cons_zero,z35,sV]
   simp [t8,go_sem]
  ·have z33:=S.eval 23 33 (by omega) rfl (hed _ rfl ⟨23,.data⟩ (by simp) rfl)
   have z34:=S.eval 24 34 (by omega) rfl (hed _ rfl ⟨24,.data⟩ (by simp) rfl)
   have z36:=S.eval 26 36 (by omega) rfl (hed _ rfl ⟨26,.data⟩ (by simp) rfl)
   refine step_enter (o:=_) rfl rfl (f:=119) (args:=#[vE,.string (bs c.lang),.int .i64 c.most,.bool true]) (w':=w1) ?_ ((HLES.out w1 (HKW.out.trans hkm)).mono fun e w2 ⟨he,hk2⟩=>⟨_,he,(sv_quiet h57 hs S hkm hc hm hk2 27 (by omega) (by omega) (by decide) (fun q=>by omega) _ rfl)⟩)
   simp only [execOp,List.getElem_toArray,List.getElem_cons_succ,List.getElem_cons_zero,resolve,List.map_toArray,List.map_cons,List.map_nil,z33,z34,z36,sV]
   simp [go_sem]
  ·have o0:On L 0:=hed _ rfl ⟨0,.data⟩ (by simp) rfl
   have z13:=S.eval 0 13 (by omega) rfl o0
   have z37:=S.eval 27 37 (by omega) rfl (hed _ rfl ⟨27,.data⟩ (by simp) rfl)
   obtain ⟨w2,hr,hI2⟩:=sv_ins h57 hs S hkm hc (hm o0) o0 28 (by omega) rfl [101,100,105,116,111,114,115] ES (by decide) (by decide) (by decide) hn rfl undef
   refine step_skip (o:=_) rfl rfl (w':=w2) ?_ hI2
   simp only [execOp,List.getElem_toArray,List.getElem_cons_succ,List.getElem_cons_zero,z13,z37,sV]
   simp [go_sem,mk_bs,hr]
  ·have o0:On L 0:=hed _ rfl ⟨0,.data⟩ (by simp) rfl
   have z13:=S.eval 0 13 (by omega) rfl o0
   obtain ⟨w2,hr,hI2⟩:=sv_ins h57 hs S hkm hc (hm o0) o0 29 (by omega) rfl [121,101,97,114] [] (by decide) (by decide) (by decide) hn rfl undef
   refine step_skip (o:=_) rfl rfl (w':=w2) ?_ hI2
   simp only [execOp,List.getElem_toArray,List.getElem_cons_succ,List.getElem_cons_zero,z13,sV]
   simp [go_sem,mk_bs,hr]
  ·refine step_value (o:=_) rfl rfl (v:=.string (bs c.suffix)) (w':=w1) ?_ (sv_quiet h57 hs S hkm hc hm (Kept.refl _) 30 (by omega) (by omega) (by decide) (fun q=>by omega) _ rfl)
   simp only [execOp,List.getElem_toArray,List.getElem_cons_succ,List.getElem_cons_zero,q3]
   (try simp [go_sem])
  ·have o0:On L 0:=hed _ rfl ⟨0,.data⟩ (by simp) rfl
   have z13:=S.eval 0 13 (by omega) rfl o0
   have z38:=S.eval 30 38 (by omega) rfl (hed _ rfl ⟨30,.data⟩ (by simp) rfl)
   obtain ⟨w2,hr,hI2⟩:=sv_ins h57 hs S hkm hc (hm o0) o0 31 (by omega) rfl [115,117,102,102,105,120] c.suffix (by decide) (by decide) (by decide) hn rfl undef
   refine step_skip (o:=_) rfl rfl (w':=w2) ?_ hI2
   simp only [execOp,List.getElem_toArray,List.getElem_cons_succ,List.getElem_cons_zero,z13,z38,sV]
   simp [go_sem,mk_bs,hr]
  ·have o0:On L 0:=hed _ rfl ⟨0,.data⟩ (by simp) rfl
   have z13:=S.eval 0 13 (by omega) rfl o0
   obtain ⟨w2,hr,hI2⟩:=sv_ins h57 hs S hkm hc (hm o0) o0 32 (by omega) rfl [110,117,109,98,101,114] [] (by decide) (by decide) (by decide) hn rfl undef
   refine step_skip (o:=_) rfl rfl (w':=w2) ?_ hI2
   simp only [execOp,List.getElem_toArray,List.getElem_cons_succ,List.getElem_cons_zero,z13,sV]
   simp [go_sem,mk_bs,hr]
  ·refine step_value (o:=_) rfl rfl (v:=.pointer (some ⟨B5,0,none⟩)) (w':=w1) ?_ (sv_quiet h57 hs S hkm hc hm (Kept.refl _) 33 (by omega) (by omega) (by decide) (fun q=>by omega) _ rfl)
   simp only [execOp,List.getElem_toArray,List.getElem_cons_succ,List.getElem_cons_zero,q5]
   simp [go_sem]
  ·have z39:=S.eval 33 39 (by omega) rfl (hed _ rfl ⟨33,.data⟩ (by simp) rfl)
   refine step_value (o:=_) rfl rfl (v:=.string (bs c.key)) (w':=w1) ?_ (sv_quiet h57 hs S hkm hc hm (Kept.refl _) 34 (by omega) (by omega) (by decide) (fun q=>by omega) _ rfl)
   simp only [execOp,List.getElem_toArray,List.getElem_cons_succ,List.getElem_cons_zero,z39,sV]
   simp [t0,go_sem]
  ·have o0:On L 0:=hed _ rfl ⟨0,.data⟩ (by simp) rfl
   have z13:=S.eval 0 13 (by omega) rfl o0
   have z40:=S.eval 34 40 (by omega) rfl (hed _ rfl ⟨34,.data⟩ (by simp) rfl)
   obtain ⟨w2,hr,hI2⟩:=sv_ins h57 hs S hkm hc (hm o0) o0 35 (by omega) rfl [107,101,121] c.key (by decide) (by decide) (by decide) hn rfl undef
   refine step_skip (o:=_) rfl rfl (w':=w2) ?_ hI2
   simp only [execOp,List.getElem_toArray,List.getElem_cons_succ,List.getElem_cons_zero,z13,z40,sV]
   simp [go_sem,mk_bs,hr]
  ·refine step_value (o:=_) rfl rfl (v:=.pointer (some ⟨B5,1,none⟩)) (w':=w1) ?_ (sv_quiet h57 hs S hkm hc hm (Kept.refl _) 36 (by omega) (by omega) (by decide) (fun q=>by omega) _ rfl)
   simp only [execOp,List.getElem_toArray,List.getElem_cons_succ,List.getElem_cons_zero,q5]
   simp [go_sem]
  ·have z41:=S.eval 36 41 (by omega) rfl (hed _ rfl ⟨36,.data⟩ (by simp) rfl)
   refine step_value (o:=_) rfl rfl (v:=.string (bs c.type)) (w':=w1) ?_ (sv_quiet h57 hs S hkm hc hm (Kept.refl _) 37 (by omega) (by omega) (by decide) (fun q=>by omega) _ rfl)
   simp only [execOp,List.getElem_toArray,List.getElem_cons_succ,List.getElem_cons_zero,z41,sV]
   simp [t1,go_sem]
  ·have o0:On L 0:=hed _ rfl ⟨0,.data⟩ (by simp) rfl
   have z13:=S.eval 0 13 (by omega) rfl o0
   have z42:=S.eval 37 42 (by omega) rfl (hed _ rfl ⟨37,.data⟩ (by simp) rfl)
   obtain ⟨w2,hr,hI2⟩:=sv_ins h57 hs S hkm hc (hm o0) o0 38 (by omega) rfl [116,121,112,101] c.type (by decide) (by decide) (by decide) hn rfl undef
   refine step_skip (o:=_) rfl rfl (w':=w2) ?_ hI2
   simp only [execOp,List.getElem_toArray,List.getElem_cons_succ,List.getElem_cons_zero,z13,z42,sV]
   simp [go_sem,mk_bs,hr]
  ·have z13:=S.eval 0 13 (by omega) rfl (hed _ rfl ⟨0,.data⟩ (by simp) rfl)
   have o0:On L 0:=hed _ rfl ⟨0,.data⟩ (by simp) rfl
   refine step_value (o:=_) rfl rfl (v:=.map (some M)) (w':=w1) ?_ (sv_quiet h57 hs S hkm hc hm (Kept.refl _) 39 (by omega) (by omega) (by decide) (fun _=>o0) _ rfl)
   simp only [execOp,List.getElem_toArray,List.getElem_cons_succ,List.getElem_cons_zero,z13,sV]
   (try simp [go_sem])
  ·have z43:=S.eval 39 43 (by omega) rfl (hed _ rfl ⟨39,.data⟩ (by simp) rfl)
   have o0:On L 0:=hc.2.1 (hed _ rfl ⟨39,.data⟩ (by simp) rfl)
   refine step_value (o:=_) rfl rfl (v:=.map (some M)) (w':=w1) ?_ (sv_quiet h57 hs S hkm hc hm (Kept.refl _) 40 (by omega) (by omega) (by decide) (fun _=>o0) _ rfl)
   simp only [execOp,List.getElem_toArray,List.getElem_cons_succ,List.getElem_cons_zero,z43,sV]
   (try simp [go_sem])
end Go.Proofs.YtmcoomlkbgiboaaGreatDoor

/- Plain: the order of the bibliography; bounds of what few lets through. No condition. -/
set_option linter.all false
namespace Go.Proofs.YtmcoomlkbgiboaaGreatDoor
open Go.RowKit

def kYr:Bs:=[121,101,97,114]
/-- What a source is sorted by. -/
def keyOf (s:SrcT):KeyT:=⟨authK s,yearL ((fieldL s.fields kYr).getD []),(fieldL s.fields wTitle).getD [],s.key⟩
def sorOf (s:SrcT):SorT:=⟨keyOf s,s⟩
def cfO (c:ColT) (ws:List Bs) (a b:SrcT):Int:=cfW c ws (keyOf a) (keyOf b)
def ordL (c:ColT) (ws:List Bs) (l:List SrcT):List SrcT:=sortS (cfO c ws) l
theorem srtS_ord (c:ColT) (ws:List Bs) (l:List SrcT):srtS (fun a b=>cfW c ws a.k b.k) (l.map sorOf)=(ordL c ws l).map sorOf:=by
 unfold srtS ordL
 rw [insertion_toS (fun x y=>(pre_map SorT.k (cfW_pre c ws)).anti x y)]
 exact (sortS_map (fun a b:SorT=>cfW c ws a.k b.k) sorOf l).symm
theorem ordL_len (c:ColT) (ws:List Bs) (l:List SrcT):(ordL c ws l).length=l.length:=sortS_len _
theorem ordL_perm (c:ColT) (ws:List Bs) (l:List SrcT):(ordL c ws l).Perm l:=sortS_perm _
/-- Bounds of a source. -/
def FitL (s:SrcT):Prop:=s.author.length≤5∧s.editor.length≤5∧s.fields.length≤12∧s.key.length+s.type.length≤200∧(∀ f∈s.fields,f.1.length+f.2.length≤200)∧∀ q∈s.author ++ s.editor,q.1.length+q.2.1.length+q.2.2.1.length+q.2.2.2.length≤200
theorem authL_sub (s:SrcT):∀ q∈authL s,q∈s.author ++ s.editor:=fun q h=>by
 unfold authL at h
 split at h
 ·exact List.mem_append_right _ h
 ·exact List.mem_append_left _ h
theorem authL_len {s:SrcT} (h:FitL s):(authL s).length≤5:=by
 unfold authL
 split
 ·exact h.2.1
 ·exact h.1
theorem invL_len (a b c d:Bs):(invL a b c d false).length≤a.length+b.length+c.length+d.length+1000:=by
 have h1:=joinedL_le [c,a]
 have h2:bulk [c,a]=c.length+1+(a.length+1+0):=rfl
 have h3:givenI b false=b:=rfl
 unfold invL
 rw [h3,List.length_append,List.length_append]
 have h4:(if b=[] then ([]:Bs) else [44,32] ++ b).length≤b.length+2:=by split <;> simp
 have h5:(if d=[] then ([]:Bs) else [44,32] ++ d).length≤d.length+2:=by split <;> simp
 omega
theorem authK_len {s:SrcT} (h:FitL s):(authK s).length≤9000:=by
 have h1:=join_sep_le 1200 ((authL s).map invP) (fun x hx=>by
  obtain ⟨q,hq,rfl⟩:=List.mem_map.1 hx
  have h2:=h.2.2.2.2.2 q (authL_sub s q hq)
  have h3:=invL_len q.1 q.2.1 q.2.2.1 q.2.2.2
  unfold invP
  omega)
 have h4:=authL_len h
 rw [List.length_map] at h1
 have h5:(authL s).length * (1200+2)≤5 * (1200+2):=Nat.mul_le_mul_right _ h4
 have h6:authK s=Lib.join ((authL s).map invP) sepL:=rfl
 rw [h6]
 omega
theorem fldL_len {ps:List Pr} {n:Nat} (h:∀ p∈ps,p.1.length+p.2.length≤n) (k:Bs):((fieldL ps k).getD []).length≤n:=by
 unfold fieldL
 cases hx:ps.find? fun q=>q.1 == k with
 | none=>simp
 | some p =>
  have:=h p (List.mem_of_find?_eq_some hx)
  simp only [Option.map_some,Option.getD_some]; omega
theorem keyOf_fit {s:SrcT} (h:FitL s):FitKy (keyOf s):=by
 have h1:=authK_len h
 have h2:=fldL_len h.2.2.2.2.1 wTitle
 have h3:=h.2.2.2.1
 have h4:=yearL_range ((fieldL s.fields kYr).getD [])
 exact ⟨by show (authK s).length≤_; omega,by show ((fieldL s.fields wTitle).getD []).length≤_; omega,by show s.key.length≤_; omega,by show _≤yearL _; omega,by show yearL _≤_; omega⟩
theorem locC_small (lang:Bs):SmallC (locC lang):=by
 have h1:=letN_len (lang == wEs) 26
 have hr:rkL lang=rkDe∨rkL lang=rkFr∨rkL lang=rkEs∨rkL lang=[]:=by
  unfold rkL
  split
  ·exact .inl rfl
  ·split
   ·exact .inr (.inl rfl)
   ·split
    ·exact .inr (.inr (.inl rfl))
    ·exact .inr (.inr (.inr rfl))
 refine ⟨?_,?_,?_,?_,?_⟩
 ·show (rkL lang).length≤_
  rcases hr with e | e | e | e <;> rw [e] <;> decide
 ·show (digN 10 ++ letN (lang == wEs) 26).length≤_
  rw [List.length_append,digN_len]; omega
 ·show ([]:Bs).length≤_
  simp
 ·intro s hs
  rcases List.mem_append.1 (show s∈digN 10 ++ letN (lang == wEs) 26 from hs) with h | h
  ·unfold digN at h
   obtain ⟨k,-,rfl⟩:=List.mem_map.1 h
   simp
  ·unfold letN at h
   obtain ⟨k,-,h⟩:=List.mem_flatMap.1 h
   unfold letC at h
   rcases List.mem_cons.1 h with rfl | h
   ·simp
   ·split at h
    ·rw [List.mem_singleton.1 h]; decide
    ·cases h
 ·show ∀ p∈rkL lang,_
  rcases hr with e | e | e | e <;> rw [e] <;> decide
/-- The words of Sort. -/
def wsY (y:StyT):List Bs:=Lib.fields y.sort
theorem srt_word {x:Bs} (h:srtK x=true):x≠[]∧∀ b∈x,b.toNat<128∧Lib.isSp b=false:=by
 rcases srt_some h with rfl | rfl | rfl | rfl
 all_goals exact ⟨by decide,by decide +kernel⟩
theorem srtE_words {l:Bs} (h:srtE l=0):l=[]∨(splitC 32 l).all srtK=true:=by
 unfold srtE at h
 split at h
 ·exact .inl ‹_›
 ·right
  split at h
  ·cases h
  ·rename_i q; simpa using q
theorem srtE_bytes {l:Bs} (h:srtE l=0):∀ b∈l,b.toNat<128∧Lib.isSp b=(b == 32):=by
 intro b hb
 rcases srtE_words h with rfl | q
 ·cases hb
 ·rcases cover_split l b hb with rfl | ⟨x,hx,hbx⟩
  ·decide +kernel
  ·have h1:=(srt_word (List.all_eq_true.1 q x hx)).2 b hbx
   refine ⟨h1.1,?_⟩
   rw [h1.2]
   symm
   rw [beq_eq_false_iff_ne]
   intro e
   subst e
   exact absurd h1.2 (by decide +kernel)
theorem styE_sort {y:StyT} (h:styE y=0):srtE y.sort=0:=by
 unfold styE at h
 split at h
 ·cases h
 ·split at h
  ·cases h
  ·split at h
   ·rename_i q; exact absurd h q
   ·rename_i q; simpa using q
/-- The words of Sort, as the reference finds them. -/
theorem wsY_split {y:StyT} (h:styE y=0) (h0:y.sort≠[]):wsY y=splitC 32 y.sort:=by
 have h1:=styE_sort h
 rcases srtE_words h1 with q | q
 ·exact absurd q h0
 ·exact fields_split y.sort (fun b hb=>(srtE_bytes h1 b hb).2) (fun x hx=>(srt_word (List.all_eq_true.1 q x hx)).1)
theorem wsY_nil {y:StyT} (h0:y.sort=[]):wsY y=[]:=by unfold wsY; rw [h0]; rfl
theorem wsY_len {y:StyT} (h:styE y=0):(wsY y).length≤y.sort.length+1:=by
 by_cases h0:y.sort=[]
 ·rw [wsY_nil h0]; simp
 ·rw [wsY_split h h0,splitC_length]
  have:=List.count_le_length (a:=(32:UInt8)) (l:=y.sort)
  omega
/-- Order: the error and the sources. -/
def ordR (y:StyT) (lang:Bs) (l:List SrcT):Int × List SrcT:=if styE y=0 then (0,ordL (locC lang) (wsY y) l) else (styE y,[])
end Go.Proofs.YtmcoomlkbgiboaaGreatDoor

/- cite.Order: the region that makes what a source is sorted by; it draws its order. Conditions: what the walk knows ahead of it. -/
set_option linter.all false
namespace Go.Proofs.YtmcoomlkbgiboaaGreatDoor
open Go.RowKit

theorem Tryz.infoKy:(Tryz.prog.info? 84).map (fun i=>(i.zero,i.size,i.bytes))=some (some (.agg #[.string ⟨#[]⟩,.int .i64 0,.string ⟨#[]⟩,.string ⟨#[]⟩]),4,56):=by kernel_rfl
theorem Tryz.sizeKy:(Tryz.prog.info? 84).map (·.size)=some 4:=by kernel_rfl
theorem Tryz.sizeS5:(Tryz.prog.info? 50).map (·.size)=some 5:=by kernel_rfl
def reg_ord9_f (s:SrcT) (vA vE vF:Value) (I:Nat) (t au:Bs) (yr:Int) (n0:Nat):Nat→(Nat→Value)→World→Prop
 | 0,V,_=>V 0=.agg #[.string (bs s.key),.string (bs s.type),vA,vE,vF]
 | 1,V,_=>V 1=.string (bs au)
 | 2,V,_=>V 2=.agg #[.string (bs s.key),.string (bs s.type),vA,vE,vF]
 | 3,V,_=>V 3=.int .i64 yr
 | 4,V,_=>V 4=.string (bs t)
 | 5,V,_=>V 5=.pointer (some ⟨I,0,none⟩)
 | 6,V,_=>V 6=.string (bs s.key)
 | 7,V,_=>V 7=.agg #[.string (bs au),.int .i64 yr,.string (bs t),.string (bs s.key)]
 | 8,V,w=>∃ Z:Nat,V 8=.pointer (some ⟨Z,0,none⟩)∧n0≤Z∧Blk w Z 84 #[.string (bs []),.int .i64 0,.string (bs []),.string (bs [])]
 | _,_,_=>True
set_option maxRecDepth 100000 in
set_option maxHeartbeats 6400000 in
theorem reg_ord9 {ops:Array Oper} {id:Nat} {a:Act} {wr:World} {Q:Exit→Act→World→Prop} (s:SrcT) (vA vE vF:Value) (I:Nat) (t au:Bs) (yr:Int)
  (hc:facB ops 10 9 #[[0,1,2,3,4,5,6,7,8]] #[[],[0],[],[2],[],[],[5],[1,3,4,6],[],[7,8]] 73=true)
  (p0:OpAt ops 0 (.load 50 (.tmp 11)) (some 36))
  (p1:OpAt ops 1 (.call { callee:=.value (.func 36),args:=#[.tmp 36],argTypes:=#[50] }) (some 37))
  (p2:OpAt ops 2 (.load 50 (.tmp 11)) (some 38))
  (p3:OpAt ops 3 (.call { callee:=.value (.func 37),args:=#[.tmp 38],argTypes:=#[50] }) (some 39))
  (p4:OpAt ops 4 (.move (.tmp 12)) (some 40))
  (p5:OpAt ops 5 (.fieldAddr 50 (.tmp 11) 0) (some 41))
  (p6:OpAt ops 6 (.load 9 (.tmp 41)) (some 42))
  (p7:OpAt ops 7 (.build 84 #[(0,.tmp 37),(1,.tmp 39),(2,.tmp 40),(3,.tmp 42)]) (some 43))
  (p8:OpAt ops 8 (.alloc 84) (some 14))
  (p9:OpAt ops 9 (.store 84 (.tmp 14) (.tmp 43)) none)
  (hz:73≤a.tmps.size) (h11:a.eval (.tmp 11)=.pointer (some ⟨I,0,none⟩)) (h12:a.eval (.tmp 12)=.string (bs t))
  (HB:Hid (Blk wr I 50 #[.string (bs s.key),.string (bs s.type),vA,vE,vF])) (HA:Hid (∀ w',Kept wr w'→Calls Tryz.prog 36 #[.agg #[.string (bs s.key),.string (bs s.type),vA,vE,vF]] w' fun e w''=>e=.returned (.string (bs au))∧Kept w' w'')) (HY:Hid (∀ w',Kept wr w'→Calls Tryz.prog 37 #[.agg #[.string (bs s.key),.string (bs s.type),vA,vE,vF]] w' fun e w''=>e=.returned (.int .i64 yr)∧Kept w' w''))
  (hend:∀ (V:Nat→Value) w' TB,V 8=.pointer (some ⟨TB,0,none⟩)→wr.heap.size≤TB→Blk w' TB 84 #[.string (bs au),.int .i64 yr,.string (bs t),.string (bs s.key)]→Kept wr w'→Q .normal ((((((((((a.put (some 36) (V 0)).put (some 37) (V 1)).put (some 38) (V 2)).put (some 39) (V 3)).put (some 40) (V 4)).put (some 41) (V 5)).put (some 42) (V 6)).put (some 43) (V 7)).put (some 14) (V 8)).put none (V 9)) w') :
  (Code.region id ops true).wp Tryz.prog Q a wr:=by
 have e0:=opAt_dst p0
 have e1:=opAt_dst p1
 have e2:=opAt_dst p2
 have e3:=opAt_dst p3
 have e4:=opAt_dst p4
 have e5:=opAt_dst p5
 have e6:=opAt_dst p6
 have e7:=opAt_dst p7
 have e8:=opAt_dst p8
 have e9:=opAt_dst p9
 have hout:∀ t,(t=11∨t=12)→∀ j,j<10→dstB ops j≠some t:=by
  intro t ht j hj
  obtain rfl | rfl | rfl | rfl | rfl | rfl | rfl | rfl | rfl | rfl:j=0∨j=1∨j=2∨j=3∨j=4∨j=5∨j=6∨j=7∨j=8∨j=9:=by omega
  all_goals simp [e0,e1,e2,e3,e4,e5,e6,e7,e8,e9]
  all_goals omega
 refine wp_region_factsL 10 9 73 _ _ hc (by rfl) hz (reg_ord9_f s vA vE vF I t au yr wr.heap.size) (fun w=>Kept wr w) Kept
  (fun V w=>∃ TB:Nat,V 8=.pointer (some ⟨TB,0,none⟩)∧wr.heap.size≤TB∧Blk w TB 84 #[.string (bs au),.int .i64 yr,.string (bs t),.string (bs s.key)]∧Kept wr w) ?_ ?_ ?_ ?_ ?_ ?_ ?_ ?_ ?_
 ·intro j hj V V' w hV h
  have hjj:=hV j (.inl rfl)
  obtain rfl | rfl | rfl | rfl | rfl | rfl | rfl | rfl | rfl | rfl:j=0∨j=1∨j=2∨j=3∨j=4∨j=5∨j=6∨j=7∨j=8∨j=9:=by omega
  all_goals (simp only [reg_ord9_f] at h ⊢; try (rw [← hjj]; exact h))
 ·intro V V' w hV h
  rw [← hV 8 (.inr (by simp))]; exact h
 ·intro j hj hne V w w' h k
  obtain rfl | rfl | rfl | rfl | rfl | rfl | rfl | rfl | rfl:j=0∨j=1∨j=2∨j=3∨j=4∨j=5∨j=6∨j=7∨j=8:=by omega
  ·exact h
  ·exact h
  ·exact h
  ·exact h
  ·exact h
  ·exact h
  ·exact h
  ·exact h
  ·obtain ⟨Z,h1,h2,h3⟩:=h
   exact ⟨Z,h1,h2,h3.kept k⟩
 ·intro j hj hne hni
  exfalso; apply hni
  have:j<9:=by omega
  simp only [Array.getD,List.size_toArray]
  obtain rfl | rfl | rfl | rfl | rfl | rfl | rfl | rfl | rfl:j=0∨j=1∨j=2∨j=3∨j=4∨j=5∨j=6∨j=7∨j=8:=by omega
  all_goals simp
 ·exact kept_drewN wr 1
 ·intro i hi hne V a' w' hG hF hR hS K hK
  have o11:=(hR 11 (hout 11 (by omega))).trans h11
  have o12:=(hR 12 (hout 12 (by omega))).trans h12
  have hb:=HB.out.kept hG
  have c0:w'.cell? ⟨I,0,none⟩=some (.string (bs s.key)):=hb.cell 0 _ rfl
  have same:∀ v,reg_ord9_f s vA vE vF I t au yr wr.heap.size i (upd V i v) w'→K (a'.put (dstB ops i) v) w':=fun v h=>hK v w' (Kept.refl _) hG h
  obtain rfl | rfl | rfl | rfl | rfl | rfl | rfl | rfl | rfl:i=0∨i=1∨i=2∨i=3∨i=4∨i=5∨i=6∨i=7∨i=8:=by omega
  ·refine opAt_list p0 fun o1 ho hg' hd'=>?_
   refine wpList_load_blk hg' 50 (.tmp 11) ho _ #[.string (bs s.key),.string (bs s.type),vA,vE,vF] o11 hb _ Tryz.underlying50 rfl Tryz.sizeS5 ?_
   rw [hd']
   exact same _ (upd_same _ _ _)
  ·have z0:=((hF 0 (by simp)).2 _ e0).trans (hF 0 (by simp)).1
   refine opAt_enter p1 (f:=36) (args:=#[.agg #[.string (bs s.key),.string (bs s.type),vA,vE,vF]]) (w':=w') (fun o1 ho=>?_) ((HA.out w' hG).mono fun e w'' ⟨he,hk⟩=>⟨_,he,hK _ w'' hk (hG.trans hk) (upd_same _ _ _)⟩)
   simp only [execOp,ho,resolve,List.map_toArray,List.map_cons,List.map_nil,z0]; simp [go_sem]
  ·refine opAt_list p2 fun o1 ho hg' hd'=>?_
   refine wpList_load_blk hg' 50 (.tmp 11) ho _ #[.string (bs s.key),.string (bs s.type),vA,vE,vF] o11 hb _ Tryz.underlying50 rfl Tryz.sizeS5 ?_
   rw [hd']
   exact same _ (upd_same _ _ _)
  ·have z2:=((hF 2 (by simp)).2 _ e2).trans (hF 2 (by simp)).1
   refine opAt_enter p3 (f:=37) (args:=#[.agg #[.string (bs s.key),.string (bs s.type),vA,vE,vF]]) (w':=w') (fun o1 ho=>?_) ((HY.out w' hG).mono fun e w'' ⟨he,hk⟩=>⟨_,he,hK _ w'' hk (hG.trans hk) (upd_same _ _ _)⟩)
   simp only [execOp,ho,resolve,List.map_toArray,List.map_cons,List.map_nil,z2]; simp [go_sem]
  ·exact op_move p4 o12 (same _ (upd_same _ _ _))
  ·refine opAt_value p5 (v:=.pointer (some ⟨I,0,none⟩)) (w':=w') (fun o1 ho=>?_) (same _ (upd_same _ _ _))
   simp only [execOp,ho,o11]; simp [go_sem,Tryz.underlying50]
  ·have z5:=((hF 5 (by simp)).2 _ e5).trans (hF 5 (by simp)).1
   refine opAt_value p6 (v:=.string (bs s.key)) (w':=w') (fun o1 ho=>?_) (same _ (upd_same _ _ _))
   simp only [execOp,ho,z5]; simp [go_sem,Tryz.underlying9,c0]
  ·have z1:=((hF 1 (by simp)).2 _ e1).trans (hF 1 (by simp)).1
   have z3:=((hF 3 (by simp)).2 _ e3).trans (hF 3 (by simp)).1
   have z4:=((hF 4 (by simp)).2 _ e4).trans (hF 4 (by simp)).1
   have z6:=((hF 6 (by simp)).2 _ e6).trans (hF 6 (by simp)).1
   refine opAt_value p7 (v:=.agg #[.string (bs au),.int .i64 yr,.string (bs t),.string (bs s.key)]) (w':=w') (fun o1 ho=>?_) (same _ (upd_same _ _ _))
   have y37:=z1
   simp only [Act.eval,Array.getD_eq_getD_getElem?] at y37
   have y39:=z3
   simp only [Act.eval,Array.getD_eq_getD_getElem?] at y39
   have y40:=z4
   simp only [Act.eval,Array.getD_eq_getD_getElem?] at y40
   have y42:=z6
   simp only [Act.eval,Array.getD_eq_getD_getElem?] at y42
   simp only [execOp,ho]; simp [go_sem,y37,y39,y40,y42]
  ·obtain ⟨i0,hi,hz0,hz1,hz2⟩:=info_parts Tryz.infoKy
   refine opAt_value p8 (v:=.pointer (some ⟨w'.heap.size,0,none⟩)) (w':=w'.alloc (.cells #[.string (bs []),.int .i64 0,.string (bs []),.string (bs [])] 84)) (fun o1 ho=>?_) (hK _ _ (kept_alloc _ _) (hG.trans (kept_alloc _ _)) ⟨w'.heap.size,upd_same _ _ _,hG.size,Blk.new _ _ _⟩)
   simp only [execOp,ho]; simp [go_sem,hi,hz0]
 ·intro V a' w' hG hF hR K hK
  obtain ⟨⟨Z,r1,r2,r3⟩,r4⟩:=hF 8 (by simp)
  have z1:=(r4 _ e8).trans r1
  have z0:=((hF 7 (by simp)).2 _ e7).trans (hF 7 (by simp)).1
  refine opAt_list p9 fun o1 ho hg' hd'=>?_
  refine wpList_store_blk hg' 84 (.tmp 14) (.tmp 43) ho Z #[.string (bs []),.int .i64 0,.string (bs []),.string (bs [])] #[.string (bs au),.int .i64 yr,.string (bs t),.string (bs s.key)] z1 z0 r3 rfl Tryz.sizeKy (by simp [Value.oneCell']) ?_
  intro w2 hb2 ho2
  rw [hd']
  exact hK _ _ ⟨Z,(upd_ne (by omega)).trans r1,r2,hb2,hG.trans' (ho2.below hG.size (fun i e=>by rw [e]; exact r2))⟩
 ·intro i hi hne hni
  exfalso; apply hni
  have:i<9:=by omega
  obtain rfl | rfl | rfl | rfl | rfl | rfl | rfl | rfl | rfl:i=0∨i=1∨i=2∨i=3∨i=4∨i=5∨i=6∨i=7∨i=8:=by omega
  all_goals simp
 ·intro V w' ⟨TB,g1,g2,g3,g4⟩ _
  have:=hend V w' TB g1 g2 g3 g4
  simp only [putAll,e0,e1,e2,e3,e4,e5,e6,e7,e8,e9]
  exact this
end Go.Proofs.YtmcoomlkbgiboaaGreatDoor
