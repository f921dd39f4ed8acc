/- Year of package bib and of its reference, at fields of any length. No condition but what a machine bears. -/
import Derived.Test.YtmcoomlkbgiboaaGreatDoorU10
import Derived.Test.YtmcoomlkbgiboaaGreatDoorU20
import Derived.Test.YtmcoomlkbgiboaaGreatDoorU07
import Derived.Test.YtmcoomlkbgiboaaGreatDoorU08
import Derived.Test.YtmcoomlkbgiboaaGreatDoorU15
import Derived.Test.YtmcoomlkbgiboaaGreatDoorU17
import Derived.Test.YtmcoomlkbgiboaaGreatDoorU04
import Derived.Lib.AppendIntMem
import Derived.Deep.MidRow
set_option linter.all false
set_option maxRecDepth 100000
set_option maxHeartbeats 12800000
namespace Go.Proofs.YtmcoomlkbgiboaaGreatDoor
open Go.RowKit
theorem zvR (sk st:Bs) (vA vE vF:Value) (ps:List Pr) (w:World) (hv:Prs w vF ps) (hN:ps.length<=1100000) (hl:((za5 ps [121,101,97,114]).getD []).length<=140737488355328) :
  Calls Tryz.prog 105 #[zhB sk st vA vE vF] w fun e w'=>e=.returned (.int .i64 (zdW ((za5 ps [121,101,97,114]).getD [])))/\Kept w w':=by
 have HF:=Hd (fun w hv=>znC sk st vA vE vF ps [121,101,97,114] w hv hN);unfold FieldPost at HF;have HV:=Hd hv;clear hv;generalize (za5 ps [121,101,97,114]).isSome=ok at *;generalize (za5 ps [121,101,97,114]).getD []=v at *;go_enter Tryz.func105,Tryz.ntmps105;go_wp2_with fail;refine (HF.out _ (HV.out.kept (zaA _ _))).mono ?_;rintro e w1 ⟨rfl,hk1⟩;have HK:=Hd ((zaA _ _).trans hk1);clear hk1;go_wp2_with fail
 go_loop [5,6] (fun n i=>∃ k:Nat,k<=v.length/\i=.int .i64 k/\n=.int .i64 (zkK (v.take k))/\(0<k->v.length<=4)/\Hid ((v.take k).all zvC=true)) (fun _ i=>v.length - (intOf i).toNat)
 case atStart=>exact ⟨0,Nat.zero_le _,rfl,rfl,fun h=>by omega,rfl⟩
 case round =>
  obtain ⟨k,hk,rfl,rfl,h4,HA⟩:=hrel;by_cases hlt:k<v.length
  ·have i0:=zd3 (P:=Tryz.prog) (t:=9) Tryz.underlying9 v k hlt k rfl;have h0:=zgA v k;have h1:=zpW v k;by_cases hle:v.length<=4
   ·have hnb:zkK (v.take k)<=9999:=zlI _ (by simp;omega) HA.out;by_cases hd:48<=at8 v k/\at8 v k<=57
    ·obtain ⟨ha,hn⟩:=ztP v k hlt HA.out hd;have HA2:=Hd ha;have HN2:=Hd hn;generalize zkK (v.take k)=nk at *;generalize at8 v k=b at *;obtain ⟨hd1,hd2⟩:=hd;clear ha hn HA;go_wp2_with fail
     go_round
     case rel=>exact ⟨k+1,by omega,by go_num,by rw[HN2.out];congr 1;omega,fun _=>hle,HA2.out⟩
     case measure=>simp [intOf];omega
    ·have HZ:=Hd (zqG v k hlt hd);generalize zkK (v.take k)=nk at *;generalize at8 v k=b at *;have hd':b<48\/57<b:=(by omega);clear hd;rcases hd' with q|q
     all_goals
      go_wp2_with fail;go_ret;exact ⟨zaK (by rw[HZ.out]),HK.out⟩
   ·have HZ:Hid (zdW v=0):=(by show _=_;unfold zdW;rw[if_neg (fun q=>hle q.1)]);generalize zkK (v.take k)=nk at *;generalize at8 v k=b at *;go_wp2_with fail;go_ret;exact ⟨zaK (by rw[HZ.out]),HK.out⟩
  ·have HZ:Hid (zdW v=zkK (v.take k)):=by
    show _=_;have h:=HA.out;rw[List.take_of_length_le (by omega)] at h ⊢;by_cases q:0<k
    ·exact zi3 v (h4 q) h
    ·exact zi3 v (by omega) h
   generalize zkK (v.take k)=nk at *;go_wp2_with fail;go_ret;exact ⟨zaK HZ.out.symm,HK.out⟩
theorem zqY (sk st:Bs) (vA vE vF:Value) (ps:List Pr) (w:World) (hv:Prs w vF ps) (hN:ps.length<=1100000) (hl:((za5 ps [121,101,97,114]).getD []).length<=140737488355328) :
  Calls Tryz.prog 37 #[zhB sk st vA vE vF] w fun e w'=>e=.returned (.int .i64 (zdW ((za5 ps [121,101,97,114]).getD [])))/\Kept w w':=by
 have HF:=Hd (fun w hv=>zlH sk st vA vE vF ps [121,101,97,114] w hv hN);unfold FieldPost at HF;have HV:=Hd hv;have HNO:Hid ((za5 ps [121,101,97,114]).isSome=false->(za5 ps [121,101,97,114]).getD []=[]):=by
  intro h;cases q:za5 ps [121,101,97,114] with
  | none=>rfl
  | some x=>rw[q] at h;cases h
 clear hv;generalize (za5 ps [121,101,97,114]).isSome=ok at *;generalize (za5 ps [121,101,97,114]).getD []=v at *;cases ok
 ·have HZ:Hid (zdW v=0):=(by show _=_;rw[HNO.out rfl];rfl);go_enter Tryz.func37,Tryz.ntmps37;go_wp2_with fail;refine (HF.out _ (HV.out.kept (zaA _ _))).mono ?_;rintro e w1 ⟨rfl,hk1⟩;have HK:=Hd ((zaA _ _).trans hk1);clear hk1;go_wp2_with fail;go_ret;exact ⟨zaK HZ.out.symm,HK.out⟩
 by_cases hle:v.length<=4
 ·go_enter Tryz.func37,Tryz.ntmps37;go_wp2_with fail;refine (HF.out _ (HV.out.kept (zaA _ _))).mono ?_;rintro e w1 ⟨rfl,hk1⟩;have HK:=Hd ((zaA _ _).trans hk1);clear hk1;go_wp2_with fail;go_loopw [5] (fun n wr=>∃ pos:Nat,pos<=v.length/\n=.int .i64 (zkK (v.take pos))/\wr.heap[w1.heap.size]? = some (.stringIter (bs v) pos)/\Kept w1 wr/\Hid ((v.take pos).all zvC=true)) (fun _ wr=>v.length - wr.iterPos w1.heap.size)
  case atStart=>exact ⟨0,Nat.zero_le _,rfl,by have:=World.iter_heap w1 (bs v) 0;simpa using this,zaA _ _,rfl⟩
  case round =>
   obtain ⟨pos,hp,rfl,hit,hk,HA⟩:=hrel;by_cases hlt:pos<v.length
   ·have nx:=fun ty=>zc0 (P:=Tryz.prog) wr w1.heap.size (bs v) pos ty hit hlt;have h0:=zgA v pos;have hnb:zkK (v.take pos)<=9999:=zlI _ (by simp;omega) HA.out;by_cases hd:48<=at8 v pos/\at8 v pos<=57
    ·rw[zoH v pos (by omega)] at nx;simp only[show ((1:Int).toNat)=1 from rfl] at nx;obtain ⟨ha,hn⟩:=ztP v pos hlt HA.out hd;have HA2:=Hd ha;have HN2:=Hd hn;obtain ⟨q1,q2,q3,q4⟩:=zh3 w1 wr w1.heap.size v pos 1 hit hk (Nat.le_refl _);have HQ1:=Hd q1;have HQ2:=Hd q2;have HQ3:=Hd q3;have HQ4:=Hd q4;generalize wr.iterAt w1.heap.size (bs v) (pos+1)=wq at *;generalize zkK (v.take pos)=nk at *;generalize at8 v pos=b at *;obtain ⟨hd1,hd2⟩:=hd;clear ha hn HA q1 q2 q3 q4 hit hk;go_wp2_with fail;go_roundw
     case rel=>exact ⟨pos+1,by omega,by first|(rw[HN2.out];done)|(rw[HN2.out];congr 1;omega),HQ1.out,HQ2.out,HA2.out⟩
     case measure=>rw[HQ3.out,HQ4.out];omega
    ·have HZ:=Hd (zqG v pos hlt hd);have hcc:(dec (bs v) pos).1<48\/57<(dec (bs v) pos).1:=by
      by_cases q:at8 v pos<128
      ·rw[zoH v pos q];simp only;omega
      ·have:=zCR v pos (by omega);omega
     have hcr:=za6 (bs v) pos hlt;obtain ⟨q1,q2,q3,q4⟩:=zh3 w1 wr w1.heap.size v pos (dec (bs v) pos).2.toNat hit hk (Nat.le_refl _);have HQ2:=Hd (HK.out.trans q2);generalize wr.iterAt w1.heap.size (bs v) (pos+(dec (bs v) pos).2.toNat)=wq at *;generalize (dec (bs v) pos).1=c at *;obtain ⟨b1,b2,_⟩:=hcr;generalize zkK (v.take pos)=nk at *;clear hd HA q1 q2 q3 q4 hit hk;rcases hcc with q|q
     all_goals
      go_wp2_with fail;go_ret;exact ⟨zaK HZ.out.symm,HQ2.out⟩
   ·have nx:=fun ty=>zbR (P:=Tryz.prog) wr w1.heap.size (bs v) pos ty hit (by simpa using hlt);have HZ:Hid (zdW v=zkK (v.take pos)):=by
     show _=_;have h:=HA.out;rw[List.take_of_length_le (by omega)] at h ⊢;exact zi3 v hle h
    have HR:=Hd (HK.out.trans hk);generalize zkK (v.take pos)=nk at *;clear hk HA hit;go_wp2_with fail;go_ret;exact ⟨zaK HZ.out.symm,HR.out⟩
 ·have HZ:Hid (zdW v=0):=(by show _=_;unfold zdW;rw[if_neg (fun q=>hle q.1)]);go_enter Tryz.func37,Tryz.ntmps37;go_wp2_with fail;refine (HF.out _ (HV.out.kept (zaA _ _))).mono ?_;rintro e w1 ⟨rfl,hk1⟩;have HK:=Hd ((zaA _ _).trans hk1);clear hk1;go_wp2_with fail;go_ret;exact ⟨zaK HZ.out.symm,HK.out⟩
def sD:Nat->Option Nat
 | 0=>some 13
 | 1=>some 14
 | 2=>some 15
 | 3=>some 16
 | 4=>some 17
 | 5=>some 18
 | 6=>some 19
 | 8=>some 20
 | 9=>some 21
 | 10=>some 22
 | 11=>some 23
 | 12=>some 24
 | 13=>some 25
 | 15=>some 26
 | 16=>some 27
 | 17=>some 28
 | 18=>some 29
 | 19=>some 30
 | 20=>some 31
 | 22=>some 32
 | 23=>some 33
 | 24=>some 34
 | 25=>some 35
 | 26=>some 36
 | 27=>some 37
 | 30=>some 38
 | 33=>some 39
 | 34=>some 40
 | 36=>some 41
 | 37=>some 42
 | 39=>some 43
 | 40=>some 11
 | _=>none
def sV (c:FilT) (B5 B6:Nat) (vA vE:Value) (A E AS ES:Bs) (M:Nat):Nat->Value
 | 0=>.map (some M)
 | 1=>.pointer (some ⟨B5,2,none⟩)
 | 2=>vA
 | 3=>.string (bs c.lang)
 | 4=>.pointer (some ⟨B6,8,none⟩)
 | 5=>.int .i64 c.most
 | 6=>.string (bs A)
 | 8=>.pointer (some ⟨B5,3,none⟩)
 | 9=>vE
 | 10=>.string (bs c.lang)
 | 11=>.pointer (some ⟨B6,8,none⟩)
 | 12=>.int .i64 c.most
 | 13=>.string (bs E)
 | 15=>.pointer (some ⟨B5,2,none⟩)
 | 16=>vA
 | 17=>.string (bs c.lang)
 | 18=>.pointer (some ⟨B6,8,none⟩)
 | 19=>.int .i64 c.most
 | 20=>.string (bs AS)
 | 22=>.pointer (some ⟨B5,3,none⟩)
 | 23=>vE
 | 24=>.string (bs c.lang)
 | 25=>.pointer (some ⟨B6,8,none⟩)
 | 26=>.int .i64 c.most
 | 27=>.string (bs ES)
 | 30=>.string (bs c.suffix)
 | 33=>.pointer (some ⟨B5,0,none⟩)
 | 34=>.string (bs c.key)
 | 36=>.pointer (some ⟨B5,1,none⟩)
 | 37=>.string (bs c.type)
 | 39=>.map (some M)
 | 40=>.map (some M)
 | _=>undef
def zmN:List (Nat × Bs):=[(7,zdH),(14,zjB),(21,zgY),(28,zgZ),(29,zdY),(31,zb9),(32,zbD),(35,zvN),(38,zvO)]
def ziJ (c:FilT) (A E AS ES:Bs):List (Bs × Bs):=[(zdH,A),(zjB,E),(zgY,AS),(zgZ,ES),(zdY,[]),(zb9,c.suffix),(zbD,[]),(zvN,c.key),(zvO,c.type)]
def zfB (l:List (Bs × Bs)) (k:Bs):Option Bs:=(l.find? fun e=>e.1 == k).map (·.2)
theorem zEw:∀ i,i<41->∀ j,j<41->sD i≠none->sD i=sD j->j=i:=by decide +kernel
theorem zFc:∀ i,i<41->(sD i).all (fun d=>decide (d<57))=true:=by decide +kernel
def zvS (L:Array Bool) (k:Bs):Bool:=zmN.any fun e=>e.2 == k && L.getD e.1 false
def gL (L:Array Bool) (sp:List (Bs × Bs)) (k:Bs):Option Bs:=if zvS L k=true then zfB sp k else none
theorem znO (L:Array Bool) (i:Nat) (h:∀ e∈zmN,e.1≠i) (k:Bs):zvS (L.setIfInBounds i true) k=zvS L k:=by
 unfold zvS;rw[Bool.eq_iff_iff,List.any_eq_true,List.any_eq_true];constructor
 ·rintro ⟨e,he,h2⟩;rw[getD_set_ne false (fun q=>h e he q.symm)] at h2;exact ⟨e,he,h2⟩
 ·rintro ⟨e,he,h2⟩;refine ⟨e,he,?_⟩;rw[getD_set_ne false (fun q=>h e he q.symm)];exact h2
theorem zBq (L:Array Bool) (i:Nat) (k:Bs) (hi:i<L.size) (hm:(i,k)∈zmN) (h:∀ e∈zmN,e.1=i->e.2=k) (k':Bs):zvS (L.setIfInBounds i true) k'=(k' == k || zvS L k'):=by
 unfold zvS;rw[Bool.eq_iff_iff,Bool.or_eq_true,List.any_eq_true,List.any_eq_true];constructor
 ·rintro ⟨e,he,h2⟩;by_cases q:e.1=i
  ·have:=h e he q;rw[Bool.and_eq_true,beq_iff_eq] at h2;left;rw[beq_iff_eq,<- h2.1,this]
  ·rw[getD_set_ne false (fun x=>q x.symm)] at h2;exact .inr ⟨e,he,h2⟩
 ·rintro (h2|⟨e,he,h2⟩)
  ·rw[beq_iff_eq] at h2;subst h2;refine ⟨(i,k'),hm,?_⟩;have:=zeR hi;unfold On at this;simp only[beq_self_eq_true,Bool.true_and];exact this
  ·rw[Bool.and_eq_true] at h2;exact ⟨e,he,by rw[Bool.and_eq_true];exact ⟨h2.1,za8 h2.2⟩⟩
theorem zBr (L:Array Bool) (i:Nat) (k:Bs) (h:∀ e∈zmN,e.2=k->e.1=i) (hn:¬ On L i):zvS L k=false:=by
 unfold zvS;rw[List.any_eq_false];intro e he h2;rw[Bool.and_eq_true,beq_iff_eq] at h2;have:=h e he h2.1;rw[this] at h2;exact hn h2.2
theorem zFA {c:FilT} {B5 B6:Nat} {vA vE:Value} {A E AS ES:Bs} {M M':Nat} (j:Nat) (h0:j≠0) (h1:j≠39) (h2:j≠40):sV c B5 B6 vA vE A E AS ES M j=sV c B5 B6 vA vE A E AS ES M' j:=by
 unfold sV
 split <;> first|rfl|contradiction
def SvI (c:FilT) (B5 B6:Nat) (vA vE:Value) (A E AS ES:Bs) (w0:World) (a0:Act) (L:Array Bool) (a:Act) (w:World):Prop :=
 L.size=41/\∃ M,Slots 41 sD (sV c B5 B6 vA vE A E AS ES M) L a0 a/\Kept w0 w/\((∀ e∈zmN,On L e.1->On L 0)/\(On L 39->On L 0)/\(On L 40->On L 0)) /\
  (On L 0->w0.heap.size<=M/\∃ es,MapT w M es/\∀ k,zdV es k=(gL L (ziJ c A E AS ES) k).map (fun x=>.string (bs x)))
section
variable {c:FilT} {B5 B6:Nat} {vA vE:Value} {A E AS ES:Bs} {w0:World} {a0:Act} {L:Array Bool} {a:Act} {w:World} {M:Nat}
theorem zyV (h57:a0.tmps.size=57) {M':Nat} (S:Slots 41 sD (sV c B5 B6 vA vE A E AS ES M) L a0 a) (i:Nat) (hi:i<41) (hs:L.size=41) (v:Value) (hv:(sD i).isSome=true->v=sV c B5 B6 vA vE A E AS ES M' i)
  (hV:∀ j,j<41->On L j->sV c B5 B6 vA vE A E AS ES M j=sV c B5 B6 vA vE A E AS ES M' j):Slots 41 sD (sV c B5 B6 vA vE A E AS ES M') (L.setIfInBounds i true) a0 (a.put (sD i) v):=by
 refine S.put i hi (by omega) (fun j d hj h1 h2=>zEw i hi j hj (by rw[h1];simp) (by rw[h1,h2])) (fun d hd=>?_) v hv hV;have:=zFc i hi;rw[hd] at this;rw[h57];simpa using this
theorem za0 (h57:a0.tmps.size=57) (hs:L.size=41) (S:Slots 41 sD (sV c B5 B6 vA vE A E AS ES M) L a0 a) (hk:Kept w0 w) (hc:(∀ e∈zmN,On L e.1->On L 0)/\(On L 39->On L 0)/\(On L 40->On L 0))
  (hm:On L 0->w0.heap.size<=M/\∃ es,MapT w M es/\∀ k,zdV es k=(gL L (ziJ c A E AS ES) k).map (fun x=>.string (bs x))) {w':World} (hkw:Kept w w')
  (i:Nat) (hi:i<41) (h0:i≠0) (hin:∀ e∈zmN,e.1≠i) (h39:i=39\/i=40->On L 0) (v:Value) (hv:v=sV c B5 B6 vA vE A E AS ES M i):SvI c B5 B6 vA vE A E AS ES w0 a0 (L.setIfInBounds i true) (a.put (sD i) v) w':=by
 obtain ⟨c1,c2,c3⟩:=hc;refine ⟨by rw[Array.size_setIfInBounds];exact hs,M,zyV h57 S i hi hs v (fun _=>hv) (fun _ _ _=>rfl),hk.trans hkw,⟨fun e he h=>?_,fun h=>?_,fun h=>?_⟩,fun h=>?_⟩
 ·rcases zf2 h with q|q
  ·exact absurd q (hin e he)
  ·exact za8 (c1 e he q)
 ·rcases zf2 h with q|q
  ·exact za8 (h39 (.inl q.symm))
  ·exact za8 (c2 q)
 ·rcases zf2 h with q|q
  ·exact za8 (h39 (.inr q.symm))
  ·exact za8 (c3 q)
 ·rcases zf2 h with q|q
  ·exact absurd q.symm h0
  ·obtain ⟨m1,es,m2,m3⟩:=hm q;refine ⟨m1,es,m2.kept hkw,fun k=>?_⟩;rw[m3 k];unfold gL;rw[znO L i hin k]
theorem ziK (h57:a0.tmps.size=57) (hs:L.size=41) (S:Slots 41 sD (sV c B5 B6 vA vE A E AS ES M) L a0 a) (hk:Kept w0 w) (hc:(∀ e∈zmN,On L e.1->On L 0)/\(On L 39->On L 0)/\(On L 40->On L 0))
  (hm:w0.heap.size<=M/\∃ es,MapT w M es/\∀ k,zdV es k=(gL L (ziJ c A E AS ES) k).map (fun x=>.string (bs x))) (h0:On L 0)
  (i:Nat) (hi:i<41) (hD:sD i=none) (k x:Bs) (hmem:(i,k)∈zmN) (hu1:∀ e∈zmN,e.1=i->e.2=k) (hu2:∀ e∈zmN,e.2=k->e.1=i) (hn:L.getD i true=false) (hx:zfB (ziJ c A E AS ES) k=some x) (v:Value) :
  ∃ w',(Instr.mapUpdate 114 (.map (some M)) (.string (bs k)) (.string (bs x))).run Tryz.prog w=.ok () w'/\SvI c B5 B6 vA vE A E AS ES w0 a0 (L.setIfInBounds i true) (a.put none v) w':=by
 obtain ⟨m1,es,m2,m3⟩:=hm;have hnone:zdV es k=none:=by
  rw[m3 k];unfold gL;rw[zBr L i k hu2 (ztZ hn)];rfl
 refine ⟨_,zFs (P:=Tryz.prog) Tryz.underlying114 Tryz.underlying9 w M es k (.string (bs x)) m2 hnone,?_⟩;obtain ⟨c1,c2,c3⟩:=hc;refine ⟨by rw[Array.size_setIfInBounds];exact hs,M,by rw[<- hD];exact zyV h57 S i hi hs v (fun q=>by rw[hD] at q;cases q) (fun _ _ _=>rfl),zcB hk (ze9 w M _) m1,⟨fun _ _ _=>za8 h0,fun _=>za8 h0,fun _=>za8 h0⟩,fun _=>⟨m1,_,zg0 w M _ m2.lt,fun k'=>?_⟩⟩;rw[zqX hnone,m3 k'];unfold gL;rw[zBq L i k (by omega) hmem hu1 k'];by_cases q:k'=k
 ·subst q;rw[if_pos rfl,beq_self_eq_true,Bool.true_or,if_pos rfl,hx];rfl
 ·have:(k' == k)=false:=(by rw[beq_eq_false_iff_ne];exact q);rw[if_neg q,this,Bool.false_or]
end
theorem zEx (L:Array Bool) {c:FilT} {A E AS ES:Bs} (h:∀ i,i<41->On L i) (k:Bs):gL L (ziJ c A E AS ES) k=zfB (ziJ c A E AS ES) k:=by
 unfold gL;by_cases q:zvS L k=true
 ·rw[if_pos q]
 ·rw[if_neg q];cases hx:zfB (ziJ c A E AS ES) k with
  | none=>rfl
  | some x =>
   exfalso;apply q;unfold zfB at hx;rw[Option.map_eq_some_iff] at hx;obtain ⟨e,he,_⟩:=hx;have h1:=List.find?_some he;have h2:=List.mem_of_find?_eq_some he;rw[beq_iff_eq] at h1;unfold zvS;rw[List.any_eq_true];have h3:∃ i,(i,e.1)∈zmN/\i<41:=by
    unfold ziJ at h2;simp only[List.mem_cons,List.mem_nil_iff,or_false] at h2;rcases h2 with rfl|rfl|rfl|rfl|rfl|rfl|rfl|rfl|rfl
    ·exact ⟨7,(by show (7,zdH)∈zmN;decide),by omega⟩
    ·exact ⟨14,(by show (14,zjB)∈zmN;decide),by omega⟩
    ·exact ⟨21,(by show (21,zgY)∈zmN;decide),by omega⟩
    ·exact ⟨28,(by show (28,zgZ)∈zmN;decide),by omega⟩
    ·exact ⟨29,(by show (29,zdY)∈zmN;decide),by omega⟩
    ·exact ⟨31,(by show (31,zb9)∈zmN;decide),by omega⟩
    ·exact ⟨32,(by show (32,zbD)∈zmN;decide),by omega⟩
    ·exact ⟨35,(by show (35,zvN)∈zmN;decide),by omega⟩
    ·exact ⟨38,(by show (38,zvO)∈zmN;decide),by omega⟩
   obtain ⟨i,hi,hlt⟩:=h3;refine ⟨(i,e.1),hi,?_⟩;have:=h i hlt;unfold On at this;rw[Bool.and_eq_true,beq_iff_eq];exact ⟨h1,this⟩
theorem zyW {c:FilT} {A E AS ES:Bs} (ys ns k:Bs):zfB (zyT (ziJ c A E AS ES) ys ns) k=if k=zdY then some ys else if k=zbD then some ns else zfB (ziJ c A E AS ES) k:=by
 have e:zyT (ziJ c A E AS ES) ys ns=[(zdH,A),(zjB,E),(zgY,AS),(zgZ,ES),(zdY,ys),(zb9,c.suffix),(zbD,ns),(zvN,c.key),(zvO,c.type)]:=rfl;rw[e];by_cases q:k=zdY
 ·subst q;rfl
 ·rw[if_neg q];by_cases q2:k=zbD
  ·subst q2;rfl
  ·rw[if_neg q2];have h1:(zdY == k)=false:=(by rw[beq_eq_false_iff_ne];exact fun e=>q e.symm);have h2:(zbD == k)=false:=(by rw[beq_eq_false_iff_ne];exact fun e=>q2 e.symm);unfold zfB ziJ;simp only[List.find?_cons,h1,h2]
theorem zfT (v:Bs):0<=zdW v/\zdW v<=9999:=by
 unfold zdW
 split
 ·rename_i h;have:=zlI v h.1 h.2;omega
 ·omega
theorem zFd (l:Array Value) (h:l.size=57):∃ x0 x1 x2 x3 x4 x5 x6 x7 x8 x9 x10 x11 x12 x13 x14 x15 x16 x17 x18 x19 x20 x21 x22 x23 x24 x25 x26 x27 x28 x29 x30 x31 x32 x33 x34 x35 x36 x37 x38 x39 x40 x41 x42 x43 x44 x45 x46 x47 x48 x49 x50 x51 x52 x53 x54 x55 x56,l=#[x0,x1,x2,x3,x4,x5,x6,x7,x8,x9,x10,x11,x12,x13,x14,x15,x16,x17,x18,x19,x20,x21,x22,x23,x24,x25,x26,x27,x28,x29,x30,x31,x32,x33,x34,x35,x36,x37,x38,x39,x40,x41,x42,x43,x44,x45,x46,x47,x48,x49,x50,x51,x52,x53,x54,x55,x56]:=by
 obtain ⟨l0⟩:=l;have h0:l0.length=57:=h;clear h;obtain ⟨x0,l1,rfl,h1⟩:=zaF h0;obtain ⟨x1,l2,rfl,h2⟩:=zaF h1;obtain ⟨x2,l3,rfl,h3⟩:=zaF h2;obtain ⟨x3,l4,rfl,h4⟩:=zaF h3;obtain ⟨x4,l5,rfl,h5⟩:=zaF h4;obtain ⟨x5,l6,rfl,h6⟩:=zaF h5;obtain ⟨x6,l7,rfl,h7⟩:=zaF h6;obtain ⟨x7,l8,rfl,h8⟩:=zaF h7;obtain ⟨x8,l9,rfl,h9⟩:=zaF h8;obtain ⟨x9,l10,rfl,h10⟩:=zaF h9;obtain ⟨x10,l11,rfl,h11⟩:=zaF h10;obtain ⟨x11,l12,rfl,h12⟩:=zaF h11;obtain ⟨x12,l13,rfl,h13⟩:=zaF h12;obtain ⟨x13,l14,rfl,h14⟩:=zaF h13;obtain ⟨x14,l15,rfl,h15⟩:=zaF h14;obtain ⟨x15,l16,rfl,h16⟩:=zaF h15;obtain ⟨x16,l17,rfl,h17⟩:=zaF h16;obtain ⟨x17,l18,rfl,h18⟩:=zaF h17;obtain ⟨x18,l19,rfl,h19⟩:=zaF h18;obtain ⟨x19,l20,rfl,h20⟩:=zaF h19;obtain ⟨x20,l21,rfl,h21⟩:=zaF h20;obtain ⟨x21,l22,rfl,h22⟩:=zaF h21;obtain ⟨x22,l23,rfl,h23⟩:=zaF h22;obtain ⟨x23,l24,rfl,h24⟩:=zaF h23;obtain ⟨x24,l25,rfl,h25⟩:=zaF h24;obtain ⟨x25,l26,rfl,h26⟩:=zaF h25;obtain ⟨x26,l27,rfl,h27⟩:=zaF h26;obtain ⟨x27,l28,rfl,h28⟩:=zaF h27;obtain ⟨x28,l29,rfl,h29⟩:=zaF h28;obtain ⟨x29,l30,rfl,h30⟩:=zaF h29;obtain ⟨x30,l31,rfl,h31⟩:=zaF h30;obtain ⟨x31,l32,rfl,h32⟩:=zaF h31;obtain ⟨x32,l33,rfl,h33⟩:=zaF h32;obtain ⟨x33,l34,rfl,h34⟩:=zaF h33;obtain ⟨x34,l35,rfl,h35⟩:=zaF h34;obtain ⟨x35,l36,rfl,h36⟩:=zaF h35;obtain ⟨x36,l37,rfl,h37⟩:=zaF h36;obtain ⟨x37,l38,rfl,h38⟩:=zaF h37;obtain ⟨x38,l39,rfl,h39⟩:=zaF h38;obtain ⟨x39,l40,rfl,h40⟩:=zaF h39;obtain ⟨x40,l41,rfl,h41⟩:=zaF h40;obtain ⟨x41,l42,rfl,h42⟩:=zaF h41;obtain ⟨x42,l43,rfl,h43⟩:=zaF h42;obtain ⟨x43,l44,rfl,h44⟩:=zaF h43;obtain ⟨x44,l45,rfl,h45⟩:=zaF h44;obtain ⟨x45,l46,rfl,h46⟩:=zaF h45;obtain ⟨x46,l47,rfl,h47⟩:=zaF h46;obtain ⟨x47,l48,rfl,h48⟩:=zaF h47;obtain ⟨x48,l49,rfl,h49⟩:=zaF h48;obtain ⟨x49,l50,rfl,h50⟩:=zaF h49;obtain ⟨x50,l51,rfl,h51⟩:=zaF h50;obtain ⟨x51,l52,rfl,h52⟩:=zaF h51;obtain ⟨x52,l53,rfl,h53⟩:=zaF h52;obtain ⟨x53,l54,rfl,h54⟩:=zaF h53;obtain ⟨x54,l55,rfl,h55⟩:=zaF h54;obtain ⟨x55,l56,rfl,h56⟩:=zaF h55;obtain ⟨x56,l57,rfl,h57⟩:=zaF h56;obtain rfl:=List.length_eq_zero_iff.1 h57;exact ⟨x0,x1,x2,x3,x4,x5,x6,x7,x8,x9,x10,x11,x12,x13,x14,x15,x16,x17,x18,x19,x20,x21,x22,x23,x24,x25,x26,x27,x28,x29,x30,x31,x32,x33,x34,x35,x36,x37,x38,x39,x40,x41,x42,x43,x44,x45,x46,x47,x48,x49,x50,x51,x52,x53,x54,x55,x56,rfl⟩
def ValsP (sp:List (Bs × Bs)) (w:World) (e:Ending) (w':World):Prop:=∃ m es,e=.returned (.map (some m))/\w.heap.size<=m/\MapT w' m es/\(∀ k,zdV es k=(zfB sp k).map (fun x=>.string (bs x)))/\Kept w w'
theorem zyX (c:FilT) (vA vE vF vY:Value) (y:StyT) (w:World) (hy:y.most=c.most) (hA:Perss w vA c.author) (hE:Perss w vE c.editor) (hF:Prs w vF c.fields) (hT:Lib.TabIs Tryz.prog w "internal/strconv.uint64pow10" .u64 Lib.pow10Tab) (hs:FitF c) :
  Calls Tryz.prog 61 #[zhB c.key c.type vA vE vF,zdU vY y,.string (bs c.lang),.string (bs c.suffix),.int .i64 c.number] w (ValsP (zfR c) w):=by
 have HA:=Hd hA;have HE:=Hd hE;have HF:=Hd hF;have HT:=Hd hT;obtain ⟨f1,f2,f3,f4,f5,f6,f7,f8⟩:=hs;obtain ⟨A,HPA⟩:∃ A,Hid (zcN c.author c.lang c.most false=A):=⟨_,rfl⟩;obtain ⟨E,HPE⟩:∃ A,Hid (zcN c.editor c.lang c.most false=A):=⟨_,rfl⟩;obtain ⟨AS,HPAS⟩:∃ A,Hid (zcN c.author c.lang c.most true=A):=⟨_,rfl⟩;obtain ⟨ES,HPES⟩:∃ A,Hid (zcN c.editor c.lang c.most true=A):=⟨_,rfl⟩;have HLA:Hid (∀ w',Kept w w'->Calls Tryz.prog 119 #[vA,.string (bs c.lang),.int .i64 c.most,.bool false] w' fun e w''=>e=.returned (.string (bs A))/\Kept w' w''):=fun w' k=>(by rw[<- HPA.out];exact zh2 vA c.author c.lang c.most false w' (HA.out.kept k) f1 f3 f5);have HLE:Hid (∀ w',Kept w w'->Calls Tryz.prog 119 #[vE,.string (bs c.lang),.int .i64 c.most,.bool false] w' fun e w''=>e=.returned (.string (bs E))/\Kept w' w''):=fun w' k=>(by rw[<- HPE.out];exact zh2 vE c.editor c.lang c.most false w' (HE.out.kept k) f2 f4 f5);have HLAS:Hid (∀ w',Kept w w'->Calls Tryz.prog 119 #[vA,.string (bs c.lang),.int .i64 c.most,.bool true] w' fun e w''=>e=.returned (.string (bs AS))/\Kept w' w''):=fun w' k=>(by rw[<- HPAS.out];exact zh2 vA c.author c.lang c.most true w' (HA.out.kept k) f1 f3 f5);have HLES:Hid (∀ w',Kept w w'->Calls Tryz.prog 119 #[vE,.string (bs c.lang),.int .i64 c.most,.bool true] w' fun e w''=>e=.returned (.string (bs ES))/\Kept w' w''):=fun w' k=>(by rw[<- HPES.out];exact zh2 vE c.editor c.lang c.most true w' (HE.out.kept k) f2 f4 f5);have HY:=Hd (fun w hv=>zqY c.key c.type vA vE vF c.fields w hv f6 f7);have HSPL:Hid (zfR c=zyT (ziJ c A E AS ES) (zjC c) (zw0 c)):=by
  show _=_;rw[<- HPA.out,<- HPE.out,<- HPAS.out,<- HPES.out];rfl
 clear hA hE hF hT HPA HPE HPAS HPES;unfold zdU zaD zhB;have HS0:=Hd (Blk.new w 50 #[.string (bs c.key),.string (bs c.type),vA,vE,vF]);have HK0:=Hd (zaA w (.cells #[.string (bs c.key),.string (bs c.type),vA,vE,vF] 50));have HS1:=Hd (Blk.new (w.alloc (.cells #[.string (bs c.key),.string (bs c.type),vA,vE,vF] 50)) 33 (zaD vY y));have HK1:=Hd (zaA (w.alloc (.cells #[.string (bs c.key),.string (bs c.type),vA,vE,vF] 50)) (.cells (zaD vY y) 33));unfold zaD at HS1 HK1;go_enter Tryz.func61,Tryz.ntmps61;go_wp2_with fail;have e1:(w.alloc (.cells #[.string (bs c.key),.string (bs c.type),vA,vE,vF] 50)).heap.size=w.heap.size+1:=(by simp);rw[e1,hy] at HS1;rw[hy] at HK1;have HSA:=Hd (HS0.out.kept HK1.out);have HKW:=Hd (HK0.out.trans HK1.out);clear HS0 HK0 HK1 e1;rw[hy];generalize ha0:Act.mk _ _=a0;generalize World.alloc (World.alloc _ _) _=w0 at HS1 HSA HKW ⊢;obtain ⟨B5,HB5⟩:∃ B,Hid (w.heap.size=B):=⟨_,rfl⟩;rw[HB5.out] at HS1 HSA;have h57:a0.tmps.size=57:=(by rw[<- ha0];rfl);have h5:a0.eval (.tmp 5)=.pointer (some ⟨B5,0,none⟩):=(by rw[<- ha0,<- HB5.out];rfl);have h6:a0.eval (.tmp 6)=.pointer (some ⟨B5+1,0,none⟩):=(by rw[<- ha0,<- HB5.out];rfl);have h2:a0.eval (.tmp 2)=.string (bs c.lang):=(by rw[<- ha0];rfl);have h3:a0.eval (.tmp 3)=.string (bs c.suffix):=(by rw[<- ha0];rfl);refine zfS (SvI c B5 (B5+1) vA vE A E AS ES w0 a0) (by kernel_rfl) (zBm (by kernel_rfl)) ?_ ?_ ?_
 ·have hno:∀ i,¬ On (Array.replicate 41 false) i:=fun i=>zgH 41 i;exact ⟨by rfl,0,Slots.start 41 sD _ 41 a0,zaB w0 1,⟨fun e _ h=>absurd h (hno _),fun h=>absurd h (hno _),fun h=>absurd h (hno _)⟩,fun h=>absurd h (hno _)⟩
 ·intro L a w1 hI hall;obtain ⟨hs,M,S,hkm,hc,hm⟩:=hI;have hon:∀ i,i<41->On L i:=fun i hi=>by
   have:=hall i hi;have hlt:i<L.size:=(by omega);unfold On;rw[Array.getD_eq_getD_getElem?,Array.getElem?_eq_getElem hlt] at this ⊢;exact this
  obtain ⟨m1,es,m2,m3⟩:=hm (hon 0 (by omega));have HM:=Hd m2;have HG0:Hid (∀ k,zdV es k=(zfB (ziJ c A E AS ES) k).map (fun x=>.string (bs x))):=fun k=>(by rw[m3 k,zEx L hon]);obtain ⟨x0,x1,x2,x3,x4,x5,x6,x7,x8,x9,x10,x11,x12,x13,x14,x15,x16,x17,x18,x19,x20,x21,x22,x23,x24,x25,x26,x27,x28,x29,x30,x31,x32,x33,x34,x35,x36,x37,x38,x39,x40,x41,x42,x43,x44,x45,x46,x47,x48,x49,x50,x51,x52,x53,x54,x55,x56,hx⟩:=zFd a.tmps (S.size.trans h57);have e5:some x5=some (.pointer (some ⟨w.heap.size,0,none⟩)):=by
   have h:=S.rest 5 (by decide +kernel);rw[hx,<- ha0] at h;exact h
  have e4:some x4=some (.int .i64 c.number):=by
   have h:=S.rest 4 (by decide +kernel);rw[hx,<- ha0] at h;exact h
  have e11:some x11=some (.map (some M)):=by
   have h:=S.val 40 11 (by omega) rfl (hon 40 (by omega));rw[hx] at h;exact h
  have hdf:a.defers=[]:=S.defers.trans (by rw[<- ha0]);rw[HB5.out] at e5;have e4':=Option.some.inj e4;have e5':=Option.some.inj e5;have e11':=Option.some.inj e11;obtain ⟨tm,df⟩:=a;simp only at hx hdf;subst hx hdf e4' e5' e11';have HKM:=Hd hkm;have HKW1:=Hd (HKW.out.trans hkm);have hMz:w.heap.size<=M:=Nat.le_trans HKW.out.size m1;have HSA1:=Hd (HSA.out.kept hkm);have HF1:=Hd (HF.out.kept (HKW.out.trans hkm));clear S hc hm hkm hon hall hs m1 m2 m3 e4 e5 e11 ha0 h57 h5 h6 h2 h3 HLA HLE HLAS HLES HA HE HSA HS1 HF;have t0:w1.cell? ⟨B5,0,none⟩=some (.string (bs c.key)):=HSA1.out.cell 0 _ rfl;have t1:w1.cell? ⟨B5,1,none⟩=some (.string (bs c.type)):=HSA1.out.cell 1 _ rfl;have t2:w1.cell? ⟨B5,2,none⟩=some vA:=HSA1.out.cell 2 _ rfl;have t3:w1.cell? ⟨B5,3,none⟩=some vE:=HSA1.out.cell 3 _ rfl;have t4:w1.cell? ⟨B5,4,none⟩=some vF:=HSA1.out.cell 4 _ rfl;have hYN:Hid (zdW ((za5 c.fields [121,101,97,114]).getD [])=zf6 c):=rfl;have hyb:=zfT ((za5 c.fields [121,101,97,114]).getD []);rw[hYN.out] at HY hyb;go_wp2_with fail;refine (HY.out _ HF1.out).mono ?_;rintro e w2 ⟨rfl,hk2⟩;have HKW2:=Hd (HKW1.out.trans hk2);have HM2:=Hd (HM.out.kept hk2);clear hk2 t0 t1 t2 t3 t4 HM HKW1 HSA1 HF1 HY f1 f2 f3 f4 f5 f6 f7;obtain ⟨f8a,f8b⟩:=f8;have HIY:=Hd (fun w h=>zoT (zf6 c) w (by omega) (by omega) h);have HIN:=Hd (fun w h=>zoT c.number w (by omega) (by omega) h);have HYZ:Hid (zf6 c=0->zjC c=[]):=fun h=>(by unfold zjC;rw[if_pos h]);have HYY:Hid (zf6 c≠0->zjC c=Lib.itoa (zf6 c)):=fun h=>(by unfold zjC;rw[if_neg h]);have HNZ:Hid (c.number<1->zw0 c=[]):=fun h=>(by unfold zw0;rw[if_pos h]);have HNN:Hid (¬ c.number<1->zw0 c=Lib.itoa c.number):=fun h=>(by unfold zw0;rw[if_neg h]);have HGY:Hid (zdV es zdY=some (.string (bs []))):=(by show _=_;rw[HG0.out];rfl);have HGN:Hid (zdV es zbD=some (.string (bs []))):=(by show _=_;rw[HG0.out];rfl);have HFIN:Hid (∀ es1 es2,(∀ k,zdV es1 k=if k=zdY then some (.string (bs (zjC c))) else zdV es k)->(∀ k,zdV es2 k=if k=zbD then some (.string (bs (zw0 c))) else zdV es1 k)->∀ k,zdV es2 k=(zfB (zfR c) k).map (fun x=>.string (bs x))):=fun es1 es2 h1 h2 k=>by
   rw[HSPL.out,zyW,h2 k,h1 k,HG0.out k];by_cases q:k=zdY
   ·subst q;rfl
   ·by_cases q2:k=zbD
    ·rw[if_pos q2,if_neg q,if_pos q2];rfl
    ·rw[if_neg q2,if_neg q,if_neg q,if_neg q2]
  have HONE:Hid (∀ (es1:List (Bs × Value)) (key v:Bs),zdV es1 key=some (.string (bs v))->∀ k,zdV es1 k=if k=key then some (.string (bs v)) else zdV es1 k):=fun es1 key v h k=>by
   by_cases q:k=key
   ·rw[if_pos q,q,h]
   ·rw[if_neg q]
  have HSEP:Hid (∀ es1,(∀ k,zdV es1 k=if k=zdY then some (.string (bs (zjC c))) else zdV es k)->zdV es1 zbD=some (.string (bs []))):=fun es1 h=>(by rw[h zbD,if_neg (by decide)];exact HGN.out);clear HSPL HG0 HGN hYN hyb;generalize zjC c=ys at *;generalize zw0 c=ns at *;generalize zfR c=sp at *;generalize Lib.itoa (zf6 c)=iy at *;generalize Lib.itoa c.number=inn at *;generalize zf6 c=n at *;by_cases hn:n=0
  ·obtain rfl:=HYZ.out hn;have HE1:=Hd (HONE.out es zdY [] HGY.out);have HN1:=Hd (HSEP.out es HE1.out);have hn':(n == 0)=true:=(by rw[hn];rfl);clear hn;by_cases hm:c.number<1
   ·obtain rfl:=HNZ.out hm;have HE2:=Hd (HFIN.out es es HE1.out (HONE.out es zbD [] HN1.out));clear HE1 HN1 HFIN HONE HSEP HYZ HYY HNZ HNN HGY;go_wp2_with fail;go_ret;exact ⟨_,es,rfl,hMz,HM2.out,HE2.out,HKW2.out⟩
   ·obtain rfl:=HNN.out (by omega);have HT2:=Hd (zeO HT.out HKW2.out);go_wp2_with fail;refine (HIN.out _ HT2.out).mono ?_;rintro e w3 ⟨rfl,hk3⟩;have HKW3:=Hd (HKW2.out.trans hk3);have HM3:=Hd (HM2.out.kept hk3);obtain ⟨es2,hes2,hup⟩:=zBp (P:=Tryz.prog) Tryz.underlying114 Tryz.underlying9 w3 M es zbD (.string (bs ns)) _ HM3.out HN1.out;have HE2:=Hd (HFIN.out es es2 HE1.out hes2);have HM4:=Hd (zg0 w3 M es2 HM3.out.lt);have HKW4:=Hd (zcB HKW3.out (ze9 w3 M es2) hMz);unfold zbD at hup;clear hes2 HE1 HN1 HFIN HONE HSEP HYZ HYY HNZ HNN HGY hk3;go_wp2_with fail;go_ret;exact ⟨_,es2,rfl,hMz,HM4.out,HE2.out,HKW4.out⟩
  ·obtain rfl:=HYY.out hn;have HT2:=Hd (zeO HT.out HKW2.out);have hn':(n == 0)=false:=(by rw[beq_eq_false_iff_ne];exact hn);clear hn;go_wp2_with fail;refine (HIY.out _ HT2.out).mono ?_;rintro e w3 ⟨rfl,hk3⟩;have HKW3:=Hd (HKW2.out.trans hk3);have HM3:=Hd (HM2.out.kept hk3);obtain ⟨es1,hes1,hup⟩:=zBp (P:=Tryz.prog) Tryz.underlying114 Tryz.underlying9 w3 M es zdY (.string (bs ys)) _ HM3.out HGY.out;have HE1:=Hd hes1;have HN1:=Hd (HSEP.out es1 hes1);have HM4:=Hd (zg0 w3 M es1 HM3.out.lt);have HKW4:=Hd (zcB HKW3.out (ze9 w3 M es1) hMz);unfold zdY at hup;clear hes1 hk3;by_cases hm:c.number<1
   ·obtain rfl:=HNZ.out hm;have HE2:=Hd (HFIN.out es1 es1 HE1.out (HONE.out es1 zbD [] HN1.out));clear HE1 HN1 HFIN HONE HSEP HYZ HYY HNZ HNN HGY;go_wp2_with fail;go_ret;exact ⟨_,es1,rfl,hMz,HM4.out,HE2.out,HKW4.out⟩
   ·obtain rfl:=HNN.out (by omega);have HT4:=Hd (zeO HT.out HKW4.out);go_wp2_with fail;clear hup;generalize zsX w3 M es1=w4 at *;refine (HIN.out _ HT4.out).mono ?_;rintro e w5 ⟨rfl,hk5⟩;have HKW5:=Hd (HKW4.out.trans hk5);have HM5:=Hd (HM4.out.kept hk5);obtain ⟨es2,hes2,hup⟩:=zBp (P:=Tryz.prog) Tryz.underlying114 Tryz.underlying9 w5 M es1 zbD (.string (bs ns)) _ HM5.out HN1.out;have HE2:=Hd (HFIN.out es1 es2 HE1.out hes2);have HM6:=Hd (zg0 w5 M es2 HM5.out.lt);have HKW6:=Hd (zcB HKW5.out (ze9 w5 M es2) hMz);unfold zbD at hup;clear hes2 HE1 HN1 HFIN HONE HSEP HYZ HYY HNZ HNN HGY hk5;go_wp2_with fail;go_ret;exact ⟨_,es2,rfl,hMz,HM6.out,HE2.out,HKW6.out⟩
 ·intro L a w1 i hI hi hn hed;obtain ⟨hs,M,S,hkm,hc,hm⟩:=hI;have q5:=(S.ext 5 (by decide +kernel)).trans h5;have q6:=(S.ext 6 (by decide +kernel)).trans h6;have q2:=(S.ext 2 (by decide +kernel)).trans h2;have q3:=(S.ext 3 (by decide +kernel)).trans h3;have t0:w1.cell? ⟨B5,0,none⟩=some (.string (bs c.key)):=(HSA.out.kept hkm).cell 0 _ rfl;have t1:w1.cell? ⟨B5,1,none⟩=some (.string (bs c.type)):=(HSA.out.kept hkm).cell 1 _ rfl;have t2:w1.cell? ⟨B5,2,none⟩=some vA:=(HSA.out.kept hkm).cell 2 _ rfl;have t3:w1.cell? ⟨B5,3,none⟩=some vE:=(HSA.out.kept hkm).cell 3 _ rfl;have t8:w1.cell? ⟨B5+1,8,none⟩=some (.int .i64 c.most):=(HS1.out.kept hkm).cell 8 _ rfl;replace hi:i<41:=hi;obtain rfl|rfl|rfl|rfl|rfl|rfl|rfl|rfl|rfl|rfl|rfl|rfl|rfl|rfl|rfl|rfl|rfl|rfl|rfl|rfl|rfl|rfl|rfl|rfl|rfl|rfl|rfl|rfl|rfl|rfl|rfl|rfl|rfl|rfl|rfl|rfl|rfl|rfl|rfl|rfl|rfl:i=0\/i=1\/i=2\/i=3\/i=4\/i=5\/i=6\/i=7\/i=8\/i=9\/i=10\/i=11\/i=12\/i=13\/i=14\/i=15\/i=16\/i=17\/i=18\/i=19\/i=20\/i=21\/i=22\/i=23\/i=24\/i=25\/i=26\/i=27\/i=28\/i=29\/i=30\/i=31\/i=32\/i=33\/i=34\/i=35\/i=36\/i=37\/i=38\/i=39\/i=40:=(by omega)
  ·have n0:=ztZ hn;obtain ⟨c1,c2,c3⟩:=hc;refine zaS (o:=_) rfl rfl (v:=.map (some w1.heap.size)) (w':=w1.alloc (.map #[] 0)) ?_ ?_
   ·have:=run_makeMap (P:=Tryz.prog) 114 w1;simp only[execOp,List.getElem_toArray,List.getElem_cons_succ,List.getElem_cons_zero];simp [go_sem,this]
   refine ⟨by rw[Array.size_setIfInBounds];exact hs,w1.heap.size,zyV h57 S 0 (by omega) hs _ (fun _=>rfl) (fun j hj ho=>zFA j (fun q=>n0 (q ▸ ho)) (fun q=>n0 (c2 (q ▸ ho))) (fun q=>n0 (c3 (q ▸ ho)))),hkm.trans (zaA _ _),⟨fun _ _ _=>zeR (by omega),fun _=>zeR (by omega),fun _=>zeR (by omega)⟩,fun _=>⟨hkm.size,[],MapT.made w1,fun k=>?_⟩⟩;have hz:zvS (L.setIfInBounds 0 true) k=false:=by
    rw[znO L 0 (by decide) k];unfold zvS;rw[List.any_eq_false];intro e he h;rw[Bool.and_eq_true] at h;exact n0 (c1 e he h.2)
   unfold gL;rw[hz];rfl
  ·refine zaS (o:=_) rfl rfl (v:=.pointer (some ⟨B5,2,none⟩)) (w':=w1) ?_ (za0 h57 hs S hkm hc hm (Kept.refl _) 1 (by omega) (by omega) (by decide) (fun q=>by omega) _ rfl);simp only[execOp,List.getElem_toArray,List.getElem_cons_succ,List.getElem_cons_zero,q5];simp [go_sem]
  ·have z14:=S.eval 1 14 (by omega) rfl (hed _ rfl ⟨1,.data⟩ (by simp) rfl);refine zaS (o:=_) rfl rfl (v:=vA) (w':=w1) ?_ (za0 h57 hs S hkm hc hm (Kept.refl _) 2 (by omega) (by omega) (by decide) (fun q=>by omega) _ rfl);simp only[execOp,List.getElem_toArray,List.getElem_cons_succ,List.getElem_cons_zero,z14,sV];simp [t2,go_sem]
  ·refine zaS (o:=_) rfl rfl (v:=.string (bs c.lang)) (w':=w1) ?_ (za0 h57 hs S hkm hc hm (Kept.refl _) 3 (by omega) (by omega) (by decide) (fun q=>by omega) _ rfl);simp only[execOp,List.getElem_toArray,List.getElem_cons_succ,List.getElem_cons_zero,q2]
   (try simp [go_sem])
  ·refine zaS (o:=_) rfl rfl (v:=.pointer (some ⟨B5+1,8,none⟩)) (w':=w1) ?_ (za0 h57 hs S hkm hc hm (Kept.refl _) 4 (by omega) (by omega) (by decide) (fun q=>by omega) _ rfl);simp only[execOp,List.getElem_toArray,List.getElem_cons_succ,List.getElem_cons_zero,q6];simp [go_sem]
  ·have z17:=S.eval 4 17 (by omega) rfl (hed _ rfl ⟨4,.data⟩ (by simp) rfl);refine zaS (o:=_) rfl rfl (v:=.int .i64 c.most) (w':=w1) ?_ (za0 h57 hs S hkm hc hm (Kept.refl _) 5 (by omega) (by omega) (by decide) (fun q=>by omega) _ rfl);simp only[execOp,List.getElem_toArray,List.getElem_cons_succ,List.getElem_cons_zero,z17,sV];simp [t8,go_sem]
  ·have z15:=S.eval 2 15 (by omega) rfl (hed _ rfl ⟨2,.data⟩ (by simp) rfl);have z16:=S.eval 3 16 (by omega) rfl (hed _ rfl ⟨3,.data⟩ (by simp) rfl);have z18:=S.eval 5 18 (by omega) rfl (hed _ rfl ⟨5,.data⟩ (by simp) rfl);refine ze8 (o:=_) rfl rfl (f:=119) (args:=#[vA,.string (bs c.lang),.int .i64 c.most,.bool false]) (w':=w1) ?_ ((HLA.out w1 (HKW.out.trans hkm)).mono fun e w2 ⟨he,hk2⟩=>⟨_,he,(za0 h57 hs S hkm hc hm hk2 6 (by omega) (by omega) (by decide) (fun q=>by omega) _ rfl)⟩);simp only[execOp,List.getElem_toArray,List.getElem_cons_succ,List.getElem_cons_zero,resolve,List.map_toArray,List.map_cons,List.map_nil,z15,z16,z18,sV];simp [go_sem]
  ·have o0:On L 0:=hed _ rfl ⟨0,.data⟩ (by simp) rfl;have z13:=S.eval 0 13 (by omega) rfl o0;have z19:=S.eval 6 19 (by omega) rfl (hed _ rfl ⟨6,.data⟩ (by simp) rfl);obtain ⟨w2,hr,hI2⟩:=ziK h57 hs S hkm hc (hm o0) o0 7 (by omega) rfl [97,117,116,104,111,114] A (by decide) (by decide) (by decide) hn rfl undef;refine zcR (o:=_) rfl rfl (w':=w2) ?_ hI2;simp only[execOp,List.getElem_toArray,List.getElem_cons_succ,List.getElem_cons_zero,z13,z19,sV];simp [go_sem,zcO,hr]
  ·refine zaS (o:=_) rfl rfl (v:=.pointer (some ⟨B5,3,none⟩)) (w':=w1) ?_ (za0 h57 hs S hkm hc hm (Kept.refl _) 8 (by omega) (by omega) (by decide) (fun q=>by omega) _ rfl);simp only[execOp,List.getElem_toArray,List.getElem_cons_succ,List.getElem_cons_zero,q5];simp [go_sem]
  ·have z20:=S.eval 8 20 (by omega) rfl (hed _ rfl ⟨8,.data⟩ (by simp) rfl);refine zaS (o:=_) rfl rfl (v:=vE) (w':=w1) ?_ (za0 h57 hs S hkm hc hm (Kept.refl _) 9 (by omega) (by omega) (by decide) (fun q=>by omega) _ rfl);simp only[execOp,List.getElem_toArray,List.getElem_cons_succ,List.getElem_cons_zero,z20,sV];simp [t3,go_sem]
  ·refine zaS (o:=_) rfl rfl (v:=.string (bs c.lang)) (w':=w1) ?_ (za0 h57 hs S hkm hc hm (Kept.refl _) 10 (by omega) (by omega) (by decide) (fun q=>by omega) _ rfl);simp only[execOp,List.getElem_toArray,List.getElem_cons_succ,List.getElem_cons_zero,q2]
   (try simp [go_sem])
  ·refine zaS (o:=_) rfl rfl (v:=.pointer (some ⟨B5+1,8,none⟩)) (w':=w1) ?_ (za0 h57 hs S hkm hc hm (Kept.refl _) 11 (by omega) (by omega) (by decide) (fun q=>by omega) _ rfl);simp only[execOp,List.getElem_toArray,List.getElem_cons_succ,List.getElem_cons_zero,q6];simp [go_sem]
  ·have z23:=S.eval 11 23 (by omega) rfl (hed _ rfl ⟨11,.data⟩ (by simp) rfl);refine zaS (o:=_) rfl rfl (v:=.int .i64 c.most) (w':=w1) ?_ (za0 h57 hs S hkm hc hm (Kept.refl _) 12 (by omega) (by omega) (by decide) (fun q=>by omega) _ rfl);simp only[execOp,List.getElem_toArray,List.getElem_cons_succ,List.getElem_cons_zero,z23,sV];simp [t8,go_sem]
  ·have z21:=S.eval 9 21 (by omega) rfl (hed _ rfl ⟨9,.data⟩ (by simp) rfl);have z22:=S.eval 10 22 (by omega) rfl (hed _ rfl ⟨10,.data⟩ (by simp) rfl);have z24:=S.eval 12 24 (by omega) rfl (hed _ rfl ⟨12,.data⟩ (by simp) rfl);refine ze8 (o:=_) rfl rfl (f:=119) (args:=#[vE,.string (bs c.lang),.int .i64 c.most,.bool false]) (w':=w1) ?_ ((HLE.out w1 (HKW.out.trans hkm)).mono fun e w2 ⟨he,hk2⟩=>⟨_,he,(za0 h57 hs S hkm hc hm hk2 13 (by omega) (by omega) (by decide) (fun q=>by omega) _ rfl)⟩);simp only[execOp,List.getElem_toArray,List.getElem_cons_succ,List.getElem_cons_zero,resolve,List.map_toArray,List.map_cons,List.map_nil,z21,z22,z24,sV];simp [go_sem]
  ·have o0:On L 0:=hed _ rfl ⟨0,.data⟩ (by simp) rfl;have z13:=S.eval 0 13 (by omega) rfl o0;have z25:=S.eval 13 25 (by omega) rfl (hed _ rfl ⟨13,.data⟩ (by simp) rfl);obtain ⟨w2,hr,hI2⟩:=ziK h57 hs S hkm hc (hm o0) o0 14 (by omega) rfl [101,100,105,116,111,114] E (by decide) (by decide) (by decide) hn rfl undef;refine zcR (o:=_) rfl rfl (w':=w2) ?_ hI2;simp only[execOp,List.getElem_toArray,List.getElem_cons_succ,List.getElem_cons_zero,z13,z25,sV];simp [go_sem,zcO,hr]
  ·refine zaS (o:=_) rfl rfl (v:=.pointer (some ⟨B5,2,none⟩)) (w':=w1) ?_ (za0 h57 hs S hkm hc hm (Kept.refl _) 15 (by omega) (by omega) (by decide) (fun q=>by omega) _ rfl);simp only[execOp,List.getElem_toArray,List.getElem_cons_succ,List.getElem_cons_zero,q5];simp [go_sem]
  ·have z26:=S.eval 15 26 (by omega) rfl (hed _ rfl ⟨15,.data⟩ (by simp) rfl);refine zaS (o:=_) rfl rfl (v:=vA) (w':=w1) ?_ (za0 h57 hs S hkm hc hm (Kept.refl _) 16 (by omega) (by omega) (by decide) (fun q=>by omega) _ rfl);simp only[execOp,List.getElem_toArray,List.getElem_cons_succ,List.getElem_cons_zero,z26,sV];simp [t2,go_sem]
  ·refine zaS (o:=_) rfl rfl (v:=.string (bs c.lang)) (w':=w1) ?_ (za0 h57 hs S hkm hc hm (Kept.refl _) 17 (by omega) (by omega) (by decide) (fun q=>by omega) _ rfl);simp only[execOp,List.getElem_toArray,List.getElem_cons_succ,List.getElem_cons_zero,q2]
   (try simp [go_sem])
  ·refine zaS (o:=_) rfl rfl (v:=.pointer (some ⟨B5+1,8,none⟩)) (w':=w1) ?_ (za0 h57 hs S hkm hc hm (Kept.refl _) 18 (by omega) (by omega) (by decide) (fun q=>by omega) _ rfl);simp only[execOp,List.getElem_toArray,List.getElem_cons_succ,List.getElem_cons_zero,q6];simp [go_sem]
  ·have z29:=S.eval 18 29 (by omega) rfl (hed _ rfl ⟨18,.data⟩ (by simp) rfl);refine zaS (o:=_) rfl rfl (v:=.int .i64 c.most) (w':=w1) ?_ (za0 h57 hs S hkm hc hm (Kept.refl _) 19 (by omega) (by omega) (by decide) (fun q=>by omega) _ rfl);simp only[execOp,List.getElem_toArray,List.getElem_cons_succ,List.getElem_cons_zero,z29,sV];simp [t8,go_sem]
  ·have z27:=S.eval 16 27 (by omega) rfl (hed _ rfl ⟨16,.data⟩ (by simp) rfl);have z28:=S.eval 17 28 (by omega) rfl (hed _ rfl ⟨17,.data⟩ (by simp) rfl);have z30:=S.eval 19 30 (by omega) rfl (hed _ rfl ⟨19,.data⟩ (by simp) rfl);refine ze8 (o:=_) rfl rfl (f:=119) (args:=#[vA,.string (bs c.lang),.int .i64 c.most,.bool true]) (w':=w1) ?_ ((HLAS.out w1 (HKW.out.trans hkm)).mono fun e w2 ⟨he,hk2⟩=>⟨_,he,(za0 h57 hs S hkm hc hm hk2 20 (by omega) (by omega) (by decide) (fun q=>by omega) _ rfl)⟩);simp only[execOp,List.getElem_toArray,List.getElem_cons_succ,List.getElem_cons_zero,resolve,List.map_toArray,List.map_cons,List.map_nil,z27,z28,z30,sV];simp [go_sem]
  ·have o0:On L 0:=hed _ rfl ⟨0,.data⟩ (by simp) rfl;have z13:=S.eval 0 13 (by omega) rfl o0;have z31:=S.eval 20 31 (by omega) rfl (hed _ rfl ⟨20,.data⟩ (by simp) rfl);obtain ⟨w2,hr,hI2⟩:=ziK h57 hs S hkm hc (hm o0) o0 21 (by omega) rfl [97,117,116,104,111,114,115] AS (by decide) (by decide) (by decide) hn rfl undef;refine zcR (o:=_) rfl rfl (w':=w2) ?_ hI2;simp only[execOp,List.getElem_toArray,List.getElem_cons_succ,List.getElem_cons_zero,z13,z31,sV];simp [go_sem,zcO,hr]
  ·refine zaS (o:=_) rfl rfl (v:=.pointer (some ⟨B5,3,none⟩)) (w':=w1) ?_ (za0 h57 hs S hkm hc hm (Kept.refl _) 22 (by omega) (by omega) (by decide) (fun q=>by omega) _ rfl);simp only[execOp,List.getElem_toArray,List.getElem_cons_succ,List.getElem_cons_zero,q5];simp [go_sem]
  ·have z32:=S.eval 22 32 (by omega) rfl (hed _ rfl ⟨22,.data⟩ (by simp) rfl);refine zaS (o:=_) rfl rfl (v:=vE) (w':=w1) ?_ (za0 h57 hs S hkm hc hm (Kept.refl _) 23 (by omega) (by omega) (by decide) (fun q=>by omega) _ rfl);simp only[execOp,List.getElem_toArray,List.getElem_cons_succ,List.getElem_cons_zero,z32,sV];simp [t3,go_sem]
  ·refine zaS (o:=_) rfl rfl (v:=.string (bs c.lang)) (w':=w1) ?_ (za0 h57 hs S hkm hc hm (Kept.refl _) 24 (by omega) (by omega) (by decide) (fun q=>by omega) _ rfl);simp only[execOp,List.getElem_toArray,List.getElem_cons_succ,List.getElem_cons_zero,q2]
   (try simp [go_sem])
  ·refine zaS (o:=_) rfl rfl (v:=.pointer (some ⟨B5+1,8,none⟩)) (w':=w1) ?_ (za0 h57 hs S hkm hc hm (Kept.refl _) 25 (by omega) (by omega) (by decide) (fun q=>by omega) _ rfl);simp only[execOp,List.getElem_toArray,List.getElem_cons_succ,List.getElem_cons_zero,q6];simp [go_sem]
  ·have z35:=S.eval 25 35 (by omega) rfl (hed _ rfl ⟨25,.data⟩ (by simp) rfl);refine zaS (o:=_) rfl rfl (v:=.int .i64 c.most) (w':=w1) ?_ (za0 h57 hs S hkm hc hm (Kept.refl _) 26 (by omega) (by omega) (by decide) (fun q=>by omega) _ rfl);simp only[execOp,List.getElem_toArray,List.getElem_cons_succ,List.getElem_cons_zero,z35,sV];simp [t8,go_sem]
  ·have z33:=S.eval 23 33 (by omega) rfl (hed _ rfl ⟨23,.data⟩ (by simp) rfl);have z34:=S.eval 24 34 (by omega) rfl (hed _ rfl ⟨24,.data⟩ (by simp) rfl);have z36:=S.eval 26 36 (by omega) rfl (hed _ rfl ⟨26,.data⟩ (by simp) rfl);refine ze8 (o:=_) rfl rfl (f:=119) (args:=#[vE,.string (bs c.lang),.int .i64 c.most,.bool true]) (w':=w1) ?_ ((HLES.out w1 (HKW.out.trans hkm)).mono fun e w2 ⟨he,hk2⟩=>⟨_,he,(za0 h57 hs S hkm hc hm hk2 27 (by omega) (by omega) (by decide) (fun q=>by omega) _ rfl)⟩);simp only[execOp,List.getElem_toArray,List.getElem_cons_succ,List.getElem_cons_zero,resolve,List.map_toArray,List.map_cons,List.map_nil,z33,z34,z36,sV];simp [go_sem]
  ·have o0:On L 0:=hed _ rfl ⟨0,.data⟩ (by simp) rfl;have z13:=S.eval 0 13 (by omega) rfl o0;have z37:=S.eval 27 37 (by omega) rfl (hed _ rfl ⟨27,.data⟩ (by simp) rfl);obtain ⟨w2,hr,hI2⟩:=ziK h57 hs S hkm hc (hm o0) o0 28 (by omega) rfl [101,100,105,116,111,114,115] ES (by decide) (by decide) (by decide) hn rfl undef;refine zcR (o:=_) rfl rfl (w':=w2) ?_ hI2;simp only[execOp,List.getElem_toArray,List.getElem_cons_succ,List.getElem_cons_zero,z13,z37,sV];simp [go_sem,zcO,hr]
  ·have o0:On L 0:=hed _ rfl ⟨0,.data⟩ (by simp) rfl;have z13:=S.eval 0 13 (by omega) rfl o0;obtain ⟨w2,hr,hI2⟩:=ziK h57 hs S hkm hc (hm o0) o0 29 (by omega) rfl [121,101,97,114] [] (by decide) (by decide) (by decide) hn rfl undef;refine zcR (o:=_) rfl rfl (w':=w2) ?_ hI2;simp only[execOp,List.getElem_toArray,List.getElem_cons_succ,List.getElem_cons_zero,z13,sV];simp [go_sem,zcO,hr]
  ·refine zaS (o:=_) rfl rfl (v:=.string (bs c.suffix)) (w':=w1) ?_ (za0 h57 hs S hkm hc hm (Kept.refl _) 30 (by omega) (by omega) (by decide) (fun q=>by omega) _ rfl);simp only[execOp,List.getElem_toArray,List.getElem_cons_succ,List.getElem_cons_zero,q3]
   (try simp [go_sem])
  ·have o0:On L 0:=hed _ rfl ⟨0,.data⟩ (by simp) rfl;have z13:=S.eval 0 13 (by omega) rfl o0;have z38:=S.eval 30 38 (by omega) rfl (hed _ rfl ⟨30,.data⟩ (by simp) rfl);obtain ⟨w2,hr,hI2⟩:=ziK h57 hs S hkm hc (hm o0) o0 31 (by omega) rfl [115,117,102,102,105,120] c.suffix (by decide) (by decide) (by decide) hn rfl undef;refine zcR (o:=_) rfl rfl (w':=w2) ?_ hI2;simp only[execOp,List.getElem_toArray,List.getElem_cons_succ,List.getElem_cons_zero,z13,z38,sV];simp [go_sem,zcO,hr]
  ·have o0:On L 0:=hed _ rfl ⟨0,.data⟩ (by simp) rfl;have z13:=S.eval 0 13 (by omega) rfl o0;obtain ⟨w2,hr,hI2⟩:=ziK h57 hs S hkm hc (hm o0) o0 32 (by omega) rfl [110,117,109,98,101,114] [] (by decide) (by decide) (by decide) hn rfl undef;refine zcR (o:=_) rfl rfl (w':=w2) ?_ hI2;simp only[execOp,List.getElem_toArray,List.getElem_cons_succ,List.getElem_cons_zero,z13,sV];simp [go_sem,zcO,hr]
  ·refine zaS (o:=_) rfl rfl (v:=.pointer (some ⟨B5,0,none⟩)) (w':=w1) ?_ (za0 h57 hs S hkm hc hm (Kept.refl _) 33 (by omega) (by omega) (by decide) (fun q=>by omega) _ rfl);simp only[execOp,List.getElem_toArray,List.getElem_cons_succ,List.getElem_cons_zero,q5];simp [go_sem]
  ·have z39:=S.eval 33 39 (by omega) rfl (hed _ rfl ⟨33,.data⟩ (by simp) rfl);refine zaS (o:=_) rfl rfl (v:=.string (bs c.key)) (w':=w1) ?_ (za0 h57 hs S hkm hc hm (Kept.refl _) 34 (by omega) (by omega) (by decide) (fun q=>by omega) _ rfl);simp only[execOp,List.getElem_toArray,List.getElem_cons_succ,List.getElem_cons_zero,z39,sV];simp [t0,go_sem]
  ·have o0:On L 0:=hed _ rfl ⟨0,.data⟩ (by simp) rfl;have z13:=S.eval 0 13 (by omega) rfl o0;have z40:=S.eval 34 40 (by omega) rfl (hed _ rfl ⟨34,.data⟩ (by simp) rfl);obtain ⟨w2,hr,hI2⟩:=ziK h57 hs S hkm hc (hm o0) o0 35 (by omega) rfl [107,101,121] c.key (by decide) (by decide) (by decide) hn rfl undef;refine zcR (o:=_) rfl rfl (w':=w2) ?_ hI2;simp only[execOp,List.getElem_toArray,List.getElem_cons_succ,List.getElem_cons_zero,z13,z40,sV];simp [go_sem,zcO,hr]
  ·refine zaS (o:=_) rfl rfl (v:=.pointer (some ⟨B5,1,none⟩)) (w':=w1) ?_ (za0 h57 hs S hkm hc hm (Kept.refl _) 36 (by omega) (by omega) (by decide) (fun q=>by omega) _ rfl);simp only[execOp,List.getElem_toArray,List.getElem_cons_succ,List.getElem_cons_zero,q5];simp [go_sem]
  ·have z41:=S.eval 36 41 (by omega) rfl (hed _ rfl ⟨36,.data⟩ (by simp) rfl);refine zaS (o:=_) rfl rfl (v:=.string (bs c.type)) (w':=w1) ?_ (za0 h57 hs S hkm hc hm (Kept.refl _) 37 (by omega) (by omega) (by decide) (fun q=>by omega) _ rfl);simp only[execOp,List.getElem_toArray,List.getElem_cons_succ,List.getElem_cons_zero,z41,sV];simp [t1,go_sem]
  ·have o0:On L 0:=hed _ rfl ⟨0,.data⟩ (by simp) rfl;have z13:=S.eval 0 13 (by omega) rfl o0;have z42:=S.eval 37 42 (by omega) rfl (hed _ rfl ⟨37,.data⟩ (by simp) rfl);obtain ⟨w2,hr,hI2⟩:=ziK h57 hs S hkm hc (hm o0) o0 38 (by omega) rfl [116,121,112,101] c.type (by decide) (by decide) (by decide) hn rfl undef;refine zcR (o:=_) rfl rfl (w':=w2) ?_ hI2;simp only[execOp,List.getElem_toArray,List.getElem_cons_succ,List.getElem_cons_zero,z13,z42,sV];simp [go_sem,zcO,hr]
  ·have z13:=S.eval 0 13 (by omega) rfl (hed _ rfl ⟨0,.data⟩ (by simp) rfl);have o0:On L 0:=hed _ rfl ⟨0,.data⟩ (by simp) rfl;refine zaS (o:=_) rfl rfl (v:=.map (some M)) (w':=w1) ?_ (za0 h57 hs S hkm hc hm (Kept.refl _) 39 (by omega) (by omega) (by decide) (fun _=>o0) _ rfl);simp only[execOp,List.getElem_toArray,List.getElem_cons_succ,List.getElem_cons_zero,z13,sV]
   (try simp [go_sem])
  ·have z43:=S.eval 39 43 (by omega) rfl (hed _ rfl ⟨39,.data⟩ (by simp) rfl);have o0:On L 0:=hc.2.1 (hed _ rfl ⟨39,.data⟩ (by simp) rfl);refine zaS (o:=_) rfl rfl (v:=.map (some M)) (w':=w1) ?_ (za0 h57 hs S hkm hc hm (Kept.refl _) 40 (by omega) (by omega) (by decide) (fun _=>o0) _ rfl);simp only[execOp,List.getElem_toArray,List.getElem_cons_succ,List.getElem_cons_zero,z43,sV]
   (try simp [go_sem])
theorem zbZ {w:World} {base:Nat} {e:TypeId} {size:Nat} {v:Value} {n:Nat} {xs:List Value} {b:Nat} {t:TypeId} {cs:Array Value} (h:w.ownsRow base e size v n xs) (hb:Blk w b t cs) (hne:e≠t):some b≠v.ownBlock:=by
 rcases h.2 with ⟨rfl,_⟩|⟨g,cap,cur,rfl,_,hh,_⟩
 ·simp [Value.ownBlock]
 ·intro q;have hg:b=g:=(by simpa [Value.ownBlock] using q);subst hg;unfold Blk at hb;rw[hb] at hh;simp only[Option.some.injEq,Obj.cells.injEq] at hh;exact hne hh.2.1.symm
theorem znP {w:World} {base base':Nat} {e e':TypeId} {size size':Nat} {v v':Value} {n n':Nat} {xs xs':List Value} (h:w.ownsRow base e size v n xs) (h':w.ownsRow base' e' size' v' n' xs') (hne:e≠e'):∀ g,v.ownBlock=some g->some g≠v'.ownBlock:=by
 intro g hg;rcases h.2 with ⟨rfl,_⟩|⟨g2,cap,cur,rfl,_,hh,_⟩
 ·simp [Value.ownBlock] at hg
 ·have hg2:g2=g:=(by simpa [Value.ownBlock] using hg);subst hg2;exact zbZ h' (show Blk w g2 e cur from hh) (fun q=>hne q.symm)
def ColSt (w:World) (b base:Nat) (c:ColT):Prop:=∃ vR vO,Blk w b 88 #[vR,vO,.string (bs c.ignore)]/\w.ownsRow base 62 2 vR c.ranks.length (zcV c.ranks)/\w.ownsRow base 9 1 vO c.order.length (zaH c.order)
theorem ColSt.kept {w w':World} {b base:Nat} {c:ColT} (h:ColSt w b base c) (k:Kept w w'):ColSt w' b base c:=by
 obtain ⟨vR,vO,h1,h2,h3⟩:=h;exact ⟨vR,vO,h1.kept k,zaU h2 k,zaU h3 k⟩
theorem zqZ {w w3:World} {base:Nat} {e:TypeId} {size:Nat} {v:Value} {n:Nat} {xs:List Value} {b o:Nat} {u:Value} (h:w.ownsRow base e size v n xs) (hg:w.grownBy w3 v.ownBlock):Only (fun i=>i=b\/base<=i) w (w3.setCell ⟨b,o,none⟩ u) :=
 ((Only.grown hg).mono (fun i _ q=>.inr (h.lt i q.symm).1)).trans ((Only.setCell b o u).mono (fun i _ q=>.inl q))
theorem zoU {w w3:World} {b base:Nat} {c:ColT} {ws:List Bs} {vR vO v':Value} (hb:Blk w b 88 #[vR,vO,.string (bs c.ignore)]) (hR:w.ownsRow base 62 2 vR c.ranks.length (zcV c.ranks)) (hO:w.ownsRow base 9 1 vO c.order.length (zaH c.order))
  (hown:w3.ownsRow base 9 1 v' (c.order ++ ws).length (zaH (c.order ++ ws))) (hg:w.grownBy w3 vO.ownBlock) :
  ColSt (w3.setCell ⟨b,1,none⟩ v') b base { c with order:=c.order ++ ws }/\Only (fun i=>i=b\/base<=i) w (w3.setCell ⟨b,1,none⟩ v'):=by
 have hne:=zbZ hO hb (by decide);have hb3:Blk w3 b 88 #[vR,vO,.string (bs c.ignore)]:=(hg.block b hb.lt hne).trans hb;have hR3:w3.ownsRow base 62 2 vR c.ranks.length (zcV c.ranks):=(Only.grown hg).own hR (fun g hg'=>znP hR hO (by decide) g hg');refine ⟨⟨vR,v',hb3.set 1 v',?_,?_⟩,zqZ hO hg⟩
 ·exact (Only.setCell b 1 v').own hR3 (fun g hg' q=>zbZ hR3 hb3 (by decide) (by rw[hg',q]))
 ·exact (Only.setCell b 1 v').own hown (fun g hg' q=>zbZ hown hb3 (by decide) (by rw[hg',q]))
theorem zBs {w w3:World} {b base:Nat} {c:ColT} {ps:List Pr} {vR vO v':Value} (hb:Blk w b 88 #[vR,vO,.string (bs c.ignore)]) (hR:w.ownsRow base 62 2 vR c.ranks.length (zcV c.ranks)) (hO:w.ownsRow base 9 1 vO c.order.length (zaH c.order))
  (hown:w3.ownsRow base 62 2 v' (c.ranks ++ ps).length (zcV (c.ranks ++ ps))) (hg:w.grownBy w3 vR.ownBlock) :
  ColSt (w3.setCell ⟨b,0,none⟩ v') b base { c with ranks:=c.ranks ++ ps }/\Only (fun i=>i=b\/base<=i) w (w3.setCell ⟨b,0,none⟩ v'):=by
 have hne:=zbZ hR hb (by decide);have hb3:Blk w3 b 88 #[vR,vO,.string (bs c.ignore)]:=(hg.block b hb.lt hne).trans hb;have hO3:w3.ownsRow base 9 1 vO c.order.length (zaH c.order):=(Only.grown hg).own hO (fun g hg'=>znP hO hR (by decide) g hg');refine ⟨⟨v',vO,hb3.set 0 v',?_,?_⟩,zqZ hR hg⟩
 ·exact (Only.setCell b 0 v').own hown (fun g hg' q=>zbZ hown hb3 (by decide) (by rw[hg',q]))
 ·exact (Only.setCell b 0 v').own hO3 (fun g hg' q=>zbZ hO3 hb3 (by decide) (by rw[hg',q]))
theorem zlS {R:Nat} {ty:TypeId}:∀ (vs:List Value) (o:Nat) (w:World) (cs:Array Value),Blk w R ty cs->∃ cs':Array Value,Blk (w.setCells R o vs) R ty cs'/\cs'.size=cs.size/\∀ j,j<cs.size->cs'[j]? = if o<=j/\j<o+vs.length then vs[j - o]? else cs[j]?
 | [],o,w,cs,h=>⟨cs,h,rfl,fun j hj=>by rw[if_neg (by simp only[List.length_nil];omega)]⟩
 | v :: vs,o,w,cs,h=>by
  obtain ⟨cs',h1,h2,h3⟩:=zlS vs (o+1) _ _ (h.set o v);refine ⟨cs',h1,by rw[h2];simp,fun j hj=>?_⟩;have:=h3 j (by simpa using hj);rw[this];by_cases q:j=o
  ·subst q;rw[if_neg (by omega),if_pos ⟨Nat.le_refl _,by simp only[List.length_cons];omega⟩];simp [hj]
  ·by_cases q2:o<=j/\j<o+(v :: vs).length
   ·rw[if_pos q2,if_pos (by simp only[List.length_cons] at q2;omega),show j - o=(j - (o+1))+1 by omega,List.getElem?_cons_succ]
   ·rw[if_neg q2,if_neg (by simp only[List.length_cons] at q2;omega),Array.getElem?_setIfInBounds_ne (fun e=>q e.symm)]
theorem zyY {w:World} {R:Nat} {ty:TypeId} {old cells:Array Value} (h:Blk w R ty old) (hs:old.size=cells.size):Blk (w.setCells R 0 cells.toList) R ty cells:=by
 obtain ⟨cs',h1,h2,h3⟩:=zlS cells.toList 0 w old h;have e:cs'=cells:=by
  apply Array.ext_getElem?;intro j;by_cases hj:j<old.size
  ·rw[h3 j hj,if_pos ⟨Nat.zero_le _,by rw[Nat.zero_add,Array.length_toList];omega⟩,Nat.sub_zero,Array.getElem?_toList]
  ·rw[Array.getElem?_eq_none (by omega),Array.getElem?_eq_none (by omega)]
 rwa [e] at h1
theorem zc1 {R:Nat}:∀ (vs:List Value) (o:Nat) (w:World),Only (fun i=>i=R) w (w.setCells R o vs)
 | [],_,w=>Only.of_kept (Kept.refl w)
 | v :: vs,o,w=>(Only.setCell R o v).trans ((zc1 vs (o+1) _).mono (fun _ _ q=>q))
theorem zbA {P:Program} {ops:Array Oper} {rest:List Oper} {op:Oper} {a:Act} {w:World} {Q:Exit->Act->World->Prop} (hgd:op.guard=none) (ty:TypeId) (x y:Operand) (ho:op.op=.store ty x y)
  (R:Nat) (old cells:Array Value) (hx:a.eval x=.pointer (some ⟨R,0,none⟩)) (hy:a.eval y=.agg cells) (hb:Blk w R ty old) (hs:old.size=cells.size)
  (hi:(P.info? ty).map (·.size)=some cells.size) (h1:cells.all (·.oneCell')=true)
  (h:∀ w',Blk w' R ty cells->Only (fun i=>i=R) w w'->wpList P ops Q rest (a.put op.dst undef) w'):wpList P ops Q (op :: rest) a w:=by
 refine wpList_store_mid hgd ty x y ho R 0 cells hx hy (fun j hj=>⟨?_,?_⟩) hi h1 (h _ (zyY hb hs) (zc1 _ _ _))
 ·rw[Nat.zero_add,hb.cell j (old[j]'(by omega)) (by rw[Array.getElem?_eq_getElem])];rfl
 ·rw[Nat.zero_add];exact hb.free j
theorem zaW {P:Program} {ops:Array Oper} {rest:List Oper} {op:Oper} {a:Act} {w:World} {Q:Exit->Act->World->Prop} (hgd:op.guard=none) (ty:TypeId) (x:Operand) (ho:op.op=.load ty x)
  (R:Nat) (cells:Array Value) (hx:a.eval x=.pointer (some ⟨R,0,none⟩)) (hb:Blk w R ty cells) (d:TypeDesc) (hu:P.underlying ty=some d) (hd:d.isRow=true)
  (hi:(P.info? ty).map (·.size)=some cells.size)
  (h:wpList P ops Q rest (a.put op.dst (.agg cells)) w):wpList P ops Q (op :: rest) a w:=by
 refine wpList_load_mid hgd ty x ho R 0 hx cells.toList d (fun j v hv=>?_) hu hd (by rw[hi,Array.length_toList]) (by rw[Array.toArray_toList];exact h);rw[Nat.zero_add];exact hb.cell j v (by rw[<- Array.getElem?_toList];exact hv)
def zEj (old:Array Value) (o:Nat) (vs:List Value):Array Value:=(old.toList.take o ++ (vs ++ old.toList.drop (o+vs.length))).toArray
theorem zt1 {w:World} {R:Nat} {ty:TypeId} {old:Array Value} (h:Blk w R ty old) (o:Nat) (vs:List Value) (hs:o+vs.length<=old.size):Blk (w.setCells R o vs) R ty (zEj old o vs):=by
 obtain ⟨cs',h1,h2,h3⟩:=zlS vs o w old h;have e:cs'=zEj old o vs:=by
  apply Array.ext_getElem?;intro j;unfold zEj
  conv=>rhs;rw[List.getElem?_toArray]
  have hl:old.toList.length=old.size:=Array.length_toList;have hm:(old.toList.take o).length=o:=(by rw[List.length_take];omega);by_cases hj:j<old.size
  ·rw[h3 j hj];by_cases q:o<=j/\j<o+vs.length
   ·rw[if_pos q,List.getElem?_append_right (by omega),hm,List.getElem?_append_left (by omega)]
   ·rw[if_neg q];by_cases q2:j<o
    ·rw[List.getElem?_append_left (by omega),List.getElem?_take_of_lt q2,Array.getElem?_toList]
    ·rw[List.getElem?_append_right (by omega),hm,List.getElem?_append_right (by omega),List.getElem?_drop,show o+vs.length+(j - o - vs.length)=j by omega,Array.getElem?_toList]
  ·rw[Array.getElem?_eq_none (by omega),List.getElem?_eq_none (by rw[List.length_append,List.length_append,List.length_drop];omega)]
 rwa [e] at h1
theorem zdI {P:Program} {ops:Array Oper} {rest:List Oper} {op:Oper} {a:Act} {w:World} {Q:Exit->Act->World->Prop} (hgd:op.guard=none) (ty:TypeId) (x y:Operand) (ho:op.op=.store ty x y)
  (R o:Nat) (te:TypeId) (old cells:Array Value) (hx:a.eval x=.pointer (some ⟨R,o,none⟩)) (hy:a.eval y=.agg cells) (hb:Blk w R te old) (hs:o+cells.size<=old.size)
  (hi:(P.info? ty).map (·.size)=some cells.size) (h1:cells.all (·.oneCell')=true)
  (h:∀ w',Blk w' R te (zEj old o cells.toList)->Only (fun i=>i=R) w w'->wpList P ops Q rest (a.put op.dst undef) w'):wpList P ops Q (op :: rest) a w:=by
 refine wpList_store_mid hgd ty x y ho R o cells hx hy (fun j hj=>⟨?_,?_⟩) hi h1 (h _ (zt1 hb o cells.toList (by rw[Array.length_toList];exact hs)) (zc1 _ _ _))
 ·rw[hb.cell (o+j) (old[o+j]'(by omega)) (by rw[Array.getElem?_eq_getElem])];rfl
 ·exact hb.free (o+j)
end Go.Proofs.YtmcoomlkbgiboaaGreatDoor
