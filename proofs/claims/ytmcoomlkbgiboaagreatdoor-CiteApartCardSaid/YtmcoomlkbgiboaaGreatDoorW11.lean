/- slices.Clone at lists of persons and of pairs. Conditions: lengths. -/
import Derived.Test.YtmcoomlkbgiboaaGreatDoorW10
import Derived.Test.YtmcoomlkbgiboaaGreatDoorW08
import Derived.Test.YtmcoomlkbgiboaaGreatDoorW04
import Derived.Test.YtmcoomlkbgiboaaGreatDoorW02
import Derived.Lib.SliceRun
import Derived.Deep.RegionLaw
set_option linter.all false
set_option maxRecDepth 100000
set_option maxHeartbeats 1600000
namespace Go.Proofs.YtmcoomlkbgiboaaGreatDoor
open Go.RowKit
theorem zvP (w:World) (g:Nat) (ps:List P4):∀ (o:Nat),(∀ j q,ps[j]? = some q->w.cell? ⟨g,o+j * 4,none⟩=some (.string (bs q.1))/\w.cell? ⟨g,o+j * 4+1,none⟩=some (.string (bs q.2.1))/\w.cell? ⟨g,o+j * 4+2,none⟩=some (.string (bs q.2.2.1))/\w.cell? ⟨g,o+j * 4+3,none⟩=some (.string (bs q.2.2.2))) ->
  ∀ j u,(zeK ps)[j]? = some u->w.cell? ⟨g,o+j,none⟩=some u:=by
 induction ps with
 | nil=>intro o _ j u h;cases h
 | cons p ps ih =>
  intro o hc j u h;have e:zeK (p :: ps)=.string (bs p.1) :: .string (bs p.2.1) :: .string (bs p.2.2.1) :: .string (bs p.2.2.2) :: zeK ps:=(by simp [zeK]);rw[e] at h;obtain ⟨c0,c1,c2,c3⟩:=hc 0 p rfl;simp only[Nat.zero_mul,Nat.add_zero] at c0 c1 c2 c3
  match j with
  | 0=>simp at h;subst h;exact c0
  | 1=>simp at h;subst h;exact c1
  | 2=>simp at h;subst h;exact c2
  | 3=>simp at h;subst h;exact c3
  | j+4 =>
   have:=ih (o+4) (fun i q hq=>by
    have h4:=hc (i+1) q (by simpa using hq);rw[show o+(i+1) * 4=o+4+i * 4 from by omega] at h4;exact h4) j u (by simpa using h)
   rw[show o+(j+4)=o+4+j from by omega];exact this
theorem zx7 (ps:List P4):(zeK ps).length=ps.length * 4:=by
 induction ps with
 | nil=>rfl
 | cons p ps ih =>
    have e:zeK (p :: ps)=.string (bs p.1) :: .string (bs p.2.1) :: .string (bs p.2.2.1) :: .string (bs p.2.2.2) :: zeK ps:=(by simp [zeK]);rw[e];simp only[List.length_cons,ih];omega
theorem zx8 (ps:List P4):∀ u∈zeK ps,u.oneCell'=true:=by
 intro u hu;unfold zeK at hu;rw[List.mem_flatMap] at hu;obtain ⟨q,_,hq⟩:=hu;simp at hq;rcases hq with rfl|rfl|rfl|rfl <;> rfl
theorem Perss.news {w:World} {ad:Addr} {n c:Nat} {ps:List P4} (h:Perss w (.slice (some ad) n c) ps):∀ j u,(zeK ps)[j]? = some u->w.cell? (ad.add j)=some u:=by
 intro j u hu;obtain ⟨a,c',hv,_,h3⟩:=h;obtain ⟨rfl,_,_⟩:=Value.slice.inj hv;have hp:0<ps.length:=by
  cases ps with
  | nil=>cases hu
  | cons p ps=>simp
 obtain ⟨g,o,ha,_,hc⟩:=h3 hp;cases ha;rw[zx2];exact zvP w g ps o hc j u hu
theorem Perss.nil_ {w:World} {n c:Nat} {ps:List P4} (h:Perss w (.slice none n c) ps):ps=[]:=by
 obtain ⟨a,c',hv,_,h3⟩:=h;obtain ⟨rfl,_,_⟩:=Value.slice.inj hv;cases ps with
 | nil=>rfl
 | cons p ps =>
  obtain ⟨g,o,ha,_⟩:=h3 (by simp);cases ha
theorem Prs.nil_ {w:World} {n c:Nat} {ps:List Pr} (h:Prs w (.slice none n c) ps):ps=[]:=by
 obtain ⟨a,c',hv,_,h3⟩:=h;obtain ⟨rfl,_,_⟩:=Value.slice.inj hv;cases ps with
 | nil=>rfl
 | cons p ps =>
  obtain ⟨g,o,ha,_⟩:=h3 (by simp);cases ha
theorem Perss.none_ (w:World):Perss w (.slice none 0 0) []:=⟨none,0,rfl,Nat.le_refl _,fun q=>absurd q (by simp)⟩
def Fresh (B:Nat) (v:Value):Prop:=∀ g o n c,v=.slice (some ⟨g,o,none⟩) n c->0<n->B<=g
theorem Fresh.none_ (B:Nat) (n c:Nat):Fresh B (.slice none n c):=fun _ _ _ _ h=>by cases h
theorem Fresh.own {w:World} {base:Nat} {e:TypeId} {size:Nat} {v:Value} {n:Nat} {xs:List Value} (h:w.ownsRow base e size v n xs):Fresh base v:=by
 obtain ⟨a,c,rfl,_,_,h3⟩:=za1 h;intro g o n' c' he hn;obtain ⟨rfl,rfl,rfl⟩:=Value.slice.inj he;obtain ⟨g',e',hb,_⟩:=h3 hn;cases e';exact hb
theorem Perss.away {S:Nat->Prop} {w w':World} {B:Nat} {v:Value} {ps:List P4} (h:Perss w v ps) (hf:Fresh B v) (k:Only S w w') (hS:∀ i,S i->i<B):Perss w' v ps:=by
 obtain ⟨a,c,rfl,hc,h3⟩:=h;refine ⟨a,c,rfl,hc,fun q=>?_⟩;obtain ⟨g,o,rfl,hg,hcell⟩:=h3 q;have hb:=hf g o _ _ rfl q;have hn:¬ S g:=fun h=>(by have:=hS g h;omega);refine ⟨g,o,rfl,Nat.lt_of_lt_of_le hg k.size,fun j x hx=>?_⟩;rw[k.cell g _ hg hn,k.cell g _ hg hn,k.cell g _ hg hn,k.cell g _ hg hn];exact hcell j x hx
theorem Prs.away {S:Nat->Prop} {w w':World} {B:Nat} {v:Value} {ps:List Pr} (h:Prs w v ps) (hf:Fresh B v) (k:Only S w w') (hS:∀ i,S i->i<B):Prs w' v ps:=by
 obtain ⟨a,c,rfl,hc,h3⟩:=h;refine ⟨a,c,rfl,hc,fun q=>?_⟩;obtain ⟨g,o,rfl,hg,hcell⟩:=h3 q;have hb:=hf g o _ _ rfl q;have hn:¬ S g:=fun h=>(by have:=hS g h;omega);refine ⟨g,o,rfl,Nat.lt_of_lt_of_le hg k.size,fun j x hx=>?_⟩;rw[k.cell g _ hg hn,k.cell g _ hg hn];exact hcell j x hx
def CloneP (ps:List P4) (w:World) (e:Ending) (w':World):Prop:=∃ v',e=.returned v'/\Perss w' v' ps/\Fresh w.heap.size v'/\Kept w w'
def CloneF (ps:List Pr) (w:World) (e:Ending) (w':World):Prop:=∃ v',e=.returned v'/\Prs w' v' ps/\Fresh w.heap.size v'/\Kept w w'
theorem zgO (v:Value) (ps:List P4) (w:World) (hv:Perss w v ps) (hN:ps.length<=1100000) :
  Calls Tryz.prog 98 #[v] w (CloneP ps w):=by
 obtain ⟨i0,hi,hz0,hz1,hz2⟩:=info_parts Tryz.infoPers;have qT:∀ (w:World) (a:Option Addr) (n c n' c':Nat),(binOp .eql 48 (.slice a n c) (.slice none n' c')).run Tryz.prog w=.ok (.bool a.isNone) w:=fun w a n c n' c'=>Lib.run_eql_slice_nil w _ _ a n c n' c' Tryz.underlying48;have HV:=Hd hv;obtain ⟨a,c,rfl,hc,h3⟩:=hv;clear h3;cases a with
 | none =>
  obtain rfl:ps=[]:=HV.out.nil_;go_enter Tryz.func98,Tryz.ntmps98;go_wp2_with fail;go_ret;exact ⟨_,rfl,Perss.none_ _,Fresh.none_ _ _ _,Kept.refl _⟩
 | some ad =>
  have HNEWS:=Hd ((HV.out.kept (zaA w (.cells #[] 77))).news);have hplen:=zx7 ps;have HONE:=Hd (zx8 ps);have HPO:Hid (∀ (w:World) (base:Nat) (e:TypeId) (v:Value) (n:Nat),n=ps.length->w.ownsRow base e 4 v n ([] ++ zeK ps)->Perss w v ps):=by
   intro w base e v n hn h;subst hn;exact Perss.own (by simpa using h)
  go_enter Tryz.func98,Tryz.ntmps98;go_wp2_with (at_builtin;refine wpList_append_own _ rfl _ _ 48 rfl w.heap.size 77 i0 _ 4 64 Tryz.underlying48 hi hz0 hz1 hz2 rfl (by decide) _ 0 [] rfl (World.ownsRow_made w #[] 0 (Nat.le_refl _) (by unfold maxLen;omega) (by simp)) ad ps.length c (zeK ps) rfl hplen HNEWS.out HONE.out ?_ ?_ ?_ ?_)
  ·unfold maxLen;omega
  ·omega
  ·simp
  intro v' w2 hown2 hgrow _;have HR:=Hd (HPO.out _ _ _ _ _ (by omega) hown2);have HK:=Hd ((zaA w (.cells #[] 77)).trans' (zaO (World.ownsRow_made (size:=4) w #[] 0 (Nat.le_refl _) (by unfold maxLen;omega) (by simp)) hgrow (by simp)));have HFR:=Hd (Fresh.own hown2);clear hown2 hgrow;go_wp2_with fail;go_ret;exact ⟨_,rfl,HR.out,HFR.out,HK.out⟩
theorem znB (v:Value) (ps:List Pr) (w:World) (hv:Prs w v ps) (hN:ps.length<=1100000) :
  Calls Tryz.prog 72 #[v] w (CloneF ps w):=by
 obtain ⟨i0,hi,hz0,hz1,hz2⟩:=info_parts Tryz.infoPair;have qT:∀ (w:World) (a:Option Addr) (n c n' c':Nat),(binOp .eql 22 (.slice a n c) (.slice none n' c')).run Tryz.prog w=.ok (.bool a.isNone) w:=fun w a n c n' c'=>Lib.run_eql_slice_nil w _ _ a n c n' c' Tryz.underlying22;have HV:=Hd hv;obtain ⟨a,c,rfl,hc,h3⟩:=hv;clear h3;cases a with
 | none =>
  obtain rfl:ps=[]:=HV.out.nil_;go_enter Tryz.func72,Tryz.ntmps72;go_wp2_with fail;go_ret;exact ⟨_,rfl,Prs.none_ _,Fresh.none_ _ _ _,Kept.refl _⟩
 | some ad =>
  have HNEWS:=Hd ((HV.out.kept (zaA w (.cells #[] 62))).news);have hplen:=zpY ps;have HONE:=Hd (zpZ ps);have HPO:Hid (∀ (w:World) (base:Nat) (e:TypeId) (v:Value) (n:Nat),n=ps.length->w.ownsRow base e 2 v n ([] ++ zcQ ps)->Prs w v ps):=by
   intro w base e v n hn h;subst hn;exact Prs.own (by simpa using h)
  go_enter Tryz.func72,Tryz.ntmps72;go_wp2_with (at_builtin;refine wpList_append_own _ rfl _ _ 22 rfl w.heap.size 62 i0 _ 2 32 Tryz.underlying22 hi hz0 hz1 hz2 rfl (by decide) _ 0 [] rfl (World.ownsRow_made w #[] 0 (Nat.le_refl _) (by unfold maxLen;omega) (by simp)) ad ps.length c (zcQ ps) rfl hplen HNEWS.out HONE.out ?_ ?_ ?_ ?_)
  ·unfold maxLen;omega
  ·omega
  ·simp
  intro v' w2 hown2 hgrow _;have HR:=Hd (HPO.out _ _ _ _ _ (by omega) hown2);have HK:=Hd ((zaA w (.cells #[] 62)).trans' (zaO (World.ownsRow_made (size:=2) w #[] 0 (Nat.le_refl _) (by unfold maxLen;omega) (by simp)) hgrow (by simp)));have HFR:=Hd (Fresh.own hown2);clear hown2 hgrow;go_wp2_with fail;go_ret;exact ⟨_,rfl,HR.out,HFR.out,HK.out⟩
structure SrcT where
 key:Bs
 type:Bs
 author:List P4
 editor:List P4
 fields:List Pr
def zsK (e:Int × Value) (i:Nat):MapEntry:={ key:=.int .i64 e.1,val:=e.2,born:=i }
def zh2 (es:List (Int × Value)):Array MapEntry:=(es.mapIdx fun i e=>zsK e i).toArray
def MapV (w:World) (m:Nat) (es:List (Int × Value)):Prop:=w.heap[m]? = some (.map (zh2 es) es.length)
def zoB (w:World) (m:Nat) (es:List (Int × Value)):World:={ w with heap:=w.heap.setIfInBounds m (.map (zh2 es) es.length) }
def zdA (es:List (Int × Value)) (k:Int):Option Value:=(es.find? fun e=>e.1 == k).map (·.2)
theorem MapV.lt {w:World} {m:Nat} {es:List (Int × Value)} (h:MapV w m es):m<w.heap.size:=by
 rcases Nat.lt_or_ge m w.heap.size with q|q
 ·exact q
 ·unfold MapV at h;rw[Array.getElem?_eq_none q] at h;cases h
theorem MapV.only {S:Nat->Prop} {w w':World} {m:Nat} {es:List (Int × Value)} (h:MapV w m es) (k:Only S w w') (hs:¬ S m):MapV w' m es:=by
 unfold MapV at h ⊢;rw[k.block m (MapV.lt h) hs];exact h
theorem MapV.kept {w w':World} {m:Nat} {es:List (Int × Value)} (h:MapV w m es) (k:Kept w w'):MapV w' m es:=h.only (Only.of_kept (S:=fun _=>False) k) (fun q=>q)
theorem MapV.made (w:World):MapV (w.alloc (.map #[] 0)) w.heap.size []:=heap_alloc_new w _
theorem zh3 (w:World) (m:Nat) (es:List (Int × Value)) (hm:m<w.heap.size):MapV (zoB w m es) m es:=by
 unfold MapV zoB;simp [hm]
theorem zc1 (w:World) (m:Nat) (es:List (Int × Value)):Only (fun i=>i=m) w (zoB w m es) :=
 ⟨rfl,rfl,rfl,by simp [zoB],fun k hk hs=>by simp [zoB,Array.getElem?_setIfInBounds,Ne.symm hs]⟩
theorem zvQ (es:List (Int × Value)) (e:Int × Value):zh2 (es ++ [e])=(zh2 es).push (zsK e es.length):=by
 unfold zh2;rw[List.mapIdx_append];simp
theorem znC (es:List (Int × Value)):(zh2 es).toList=es.mapIdx fun i e=>zsK e (i+0):=by simp [zh2]
theorem zx9 (e:Int × Value) (es:List (Int × Value)) (k:Int):zdA (e :: es) k=if e.1=k then some e.2 else zdA es k:=by
 unfold zdA;rw[List.find?_cons];by_cases h:e.1=k
 ·rw[if_pos h];simp [h]
 ·rw[if_neg h];have:(e.1 == k)=false:=(by simpa using h);rw[this]
theorem zEw {kd:IntKind} (k:Int):∀ (l:List (Int × Value)) (i j:Nat),
  (zdA l k=none/\Instr.findNow (.int kd) (.int .i64 k) (l.mapIdx fun i' e=>zsK e (i'+i)) j=some none) \/
  (∃ (n:Nat) (v:Value),zdA l k=some v/\l[n]? = some (k,v)/\Instr.findNow (.int kd) (.int .i64 k) (l.mapIdx fun i' e=>zsK e (i'+i)) j=some (some (n+j,v)))
 | [],_,_=>.inl ⟨rfl,rfl⟩
 | e :: l,i,j=>by
  rw[List.mapIdx_cons,zx9];unfold Instr.findNow;by_cases h:e.1=k
  ·right;refine ⟨0,e.2,by rw[if_pos h],by rw[<- h];rfl,?_⟩;simp [zsK,Instr.sameNow,h]
  ·have hx:(k == e.1)=false:=(by rw[beq_eq_false_iff_ne];exact fun q=>h q.symm);have hm:(l.mapIdx fun i' x=>zsK x (i'+1+i))=l.mapIdx fun i' x=>zsK x (i'+(i+1)):=by
    congr 1;funext a b;congr 1;omega
   rw[if_neg h];simp only[zsK,Instr.sameNow,hx,if_true] at hm ⊢;rcases zEw (kd:=kd) k l (i+1) (j+1) with ⟨g1,g2⟩|⟨n,v,g1,g2,g3⟩
   ·left;simp only[zsK] at g2;rw[hm];exact ⟨g1,g2⟩
   ·right;simp only[zsK] at g3;rw[hm];exact ⟨n+1,v,g1,by simpa using g2,by rw[g3];congr 3;omega⟩
section
variable {P:Program} {tm ti te:TypeId}
theorem ze1 (hi:P.underlying ti=some (.int .i64)) (e:Bool) (k:Int) (w:World):(Instr.checkKey e 10000 ti (.int .i64 k)).run P w=.ok () w:=by
 unfold Instr.checkKey;simp only[Sem.run_bind,run_underlying hi,Result.andThen];rfl
theorem zE1 (hi:P.underlying ti=some (.int .i64)) (w:World) (es:List (Int × Value)) (k:Int) :
  (zdA es k=none/\(Instr.findKey ti (.int .i64 k) (zh2 es).toList).run P w=.ok none w) \/
  (∃ n v,zdA es k=some v/\es[n]? = some (k,v)/\(Instr.findKey ti (.int .i64 k) (zh2 es).toList).run P w=.ok (some (n,v)) w):=by
 rcases zEw (kd:=.i64) k es 0 0 with ⟨g1,g2⟩|⟨n,v,g1,g2,g3⟩
 ·left;refine ⟨g1,?_⟩;unfold Instr.findKey;simp only[Sem.run_bind,run_underlying hi,Result.andThen,znC,g2];simp [Sem.run_pure]
 ·right;refine ⟨n,v,g1,g2,?_⟩;unfold Instr.findKey;simp only[Sem.run_bind,run_underlying hi,Result.andThen,znC,g3];simp [Sem.run_pure]
theorem zvR (hm:P.underlying tm=some (.map ti te)) (hi:P.underlying ti=some (.int .i64)) (w:World) (m:Nat) (es:List (Int × Value)) (k:Int) (z:Value) (hz:(zeroValue te).run P w=.ok z w) (h:MapV w m es) :
  (Instr.lookup tm (.map (some m)) (.int .i64 k) false).run P w=.ok ((zdA es k).getD z) w:=by
 unfold MapV at h;unfold Instr.lookup;simp only[Sem.run_bind,run_underlying hm,Result.andThen];rcases zE1 hi w es k with ⟨g1,g2⟩|⟨n,v,g1,_,g3⟩
 ·simp only[getObj,Sem.run_bind,Sem.run,h,Result.andThen,Sem.run_pure,ze1 hi,g2,g1,hz];simp [Sem.run_pure]
 ·simp only[getObj,Sem.run_bind,Sem.run,h,Result.andThen,Sem.run_pure,ze1 hi,g3,g1];simp [Sem.run_pure]
theorem zkI (hm:P.underlying tm=some (.map ti te)) (hi:P.underlying ti=some (.int .i64)) (w:World) (m:Nat) (es:List (Int × Value)) (k:Int) (z:Value) (hz:(zeroValue te).run P w=.ok z w) (h:MapV w m es) :
  (Instr.lookup tm (.map (some m)) (.int .i64 k) true).run P w=.ok (.tuple #[(zdA es k).getD z,.bool (zdA es k).isSome]) w:=by
 unfold MapV at h;unfold Instr.lookup;simp only[Sem.run_bind,run_underlying hm,Result.andThen];rcases zE1 hi w es k with ⟨g1,g2⟩|⟨n,v,g1,_,g3⟩
 ·simp only[getObj,Sem.run_bind,Sem.run,h,Result.andThen,Sem.run_pure,ze1 hi,g2,g1,hz];simp [Sem.run_pure]
 ·simp only[getObj,Sem.run_bind,Sem.run,h,Result.andThen,Sem.run_pure,ze1 hi,g3,g1];simp [Sem.run_pure]
theorem zEx (hm:P.underlying tm=some (.map ti te)) (hi:P.underlying ti=some (.int .i64)) (w:World) (m:Nat) (es:List (Int × Value)) (k:Int) (v:Value) (h:MapV w m es) (hk:zdA es k=none) :
  (Instr.mapUpdate tm (.map (some m)) (.int .i64 k) v).run P w=.ok () (zoB w m (es ++ [(k,v)])):=by
 unfold MapV at h;unfold Instr.mapUpdate;simp only[Sem.run_bind,run_underlying hm,Result.andThen];rcases zE1 hi w es k with ⟨g1,g2⟩|⟨n,v',g1,_,_⟩
 ·simp only[getObj,Sem.run_bind,Sem.run,h,Result.andThen,Sem.run_pure,ze1 hi,g2,setObj];refine congrArg (Result.ok ()) ?_;unfold zoB;rw[zvQ];simp [zsK]
 ·rw[hk] at g1;cases g1
theorem zBn (k:Int) (w:World):(Instr.keyThatStays (.int .i64 k) (.int .i64 k)).run P w=.ok (.int .i64 k) w:=by
 unfold Instr.keyThatStays;have e:Instr.sameBits 10000 (.int .i64 k) (.int .i64 k)=true:=by
  unfold Instr.sameBits;simp
 rw[e];rfl
theorem zvS (es:List (Int × Value)) (n:Nat) (k:Int) (v:Value) (h:es[n]? = some (k,v)):((zh2 es).modify n fun e=>{ e with key:=.int .i64 k,val:=v })=zh2 es:=by
 apply Array.ext_getElem?;intro i;rw[Array.getElem?_modify];by_cases q:n=i
 ·subst q;rw[if_pos rfl];unfold zh2;simp [h,zsK]
 ·rw[if_neg q]
theorem zyA (es:List (Int × Value)) (n:Nat) (k:Int) (v:Value) (h:es[n]? = some (k,v)):(zh2 es)[n]? = some (zsK (k,v) n):=by
 unfold zh2;simp [h]
theorem zyB (hm:P.underlying tm=some (.map ti te)) (hi:P.underlying ti=some (.int .i64)) (w:World) (m:Nat) (es:List (Int × Value)) (k:Int) (v:Value) (h:MapV w m es) (hk:zdA es k=some v) :
  (Instr.mapUpdate tm (.map (some m)) (.int .i64 k) v).run P w=.ok () (zoB w m es):=by
 unfold MapV at h;unfold Instr.mapUpdate;simp only[Sem.run_bind,run_underlying hm,Result.andThen];rcases zE1 hi w es k with ⟨g1,_⟩|⟨n,v',g1,g2,g3⟩
 ·rw[hk] at g1;cases g1
 ·rw[hk] at g1;cases g1;have e1:=zyA es n k v g2;simp only[getObj,Sem.run_bind,Sem.run,h,Result.andThen,Sem.run_pure,ze1 hi,g3,setObj,e1,Option.map_some,Option.getD_some,zsK,zBn];refine congrArg (Result.ok ()) ?_;unfold zoB;have e2:=zvS es n k v g2
  first|rw[e2]|(trace_state;rfl)
end
def zyC (k:Bs) (i:Nat):MapEntry:={ key:=.string (bs k),val:=.bool true,born:=i }
def zoC (ks:List Bs):Array MapEntry:=(ks.mapIdx fun i k=>zyC k i).toArray
def MapK (w:World) (m:Nat) (ks:List Bs):Prop:=w.heap[m]? = some (.map (zoC ks) ks.length)
def zoD (w:World) (m:Nat) (ks:List Bs):World:={ w with heap:=w.heap.setIfInBounds m (.map (zoC ks) ks.length) }
theorem MapK.lt {w:World} {m:Nat} {ks:List Bs} (h:MapK w m ks):m<w.heap.size:=by
 rcases Nat.lt_or_ge m w.heap.size with q|q
 ·exact q
 ·unfold MapK at h;rw[Array.getElem?_eq_none q] at h;cases h
theorem MapK.only {S:Nat->Prop} {w w':World} {m:Nat} {ks:List Bs} (h:MapK w m ks) (k:Only S w w') (hs:¬ S m):MapK w' m ks:=by
 unfold MapK at h ⊢;rw[k.block m (MapK.lt h) hs];exact h
theorem zgP (w:World) (m:Nat) (ks:List Bs) (hm:m<w.heap.size):MapK (zoD w m ks) m ks:=by
 unfold MapK zoD;simp [hm]
theorem zdK (w:World) (m:Nat) (ks:List Bs):Only (fun i=>i=m) w (zoD w m ks) :=
 ⟨rfl,rfl,rfl,by simp [zoD],fun k hk hs=>by simp [zoD,Array.getElem?_setIfInBounds,Ne.symm hs]⟩
theorem zvT (ks:List Bs) (k:Bs):zoC (ks ++ [k])=(zoC ks).push (zyC k ks.length):=by
 unfold zoC;rw[List.mapIdx_append];simp
theorem znD (k:Bs):∀ (l:List Bs) (i j:Nat),k ∉ l->Instr.findNow .string (.string (bs k)) (l.mapIdx fun i' x=>zyC x (i'+i)) j=some none
 | [],_,_,_=>rfl
 | x :: l,i,j,h=>by
  have hx:(bs k == bs x)=false:=(by rw[zjH,beq_eq_false_iff_ne];exact fun e=>h (by simp [e]));rw[List.mapIdx_cons];unfold Instr.findNow;simp only[zyC,Instr.sameNow,hx];have:=znD k l (i+1) (j+1) (fun e=>h (by simp [e]));simp only[zyC] at this;rw[<- this];congr 1;apply List.ext_getElem?;intro m;simp [List.getElem?_mapIdx];cases l[m]? <;> simp;omega
theorem znE (k:Bs):∀ (l:List Bs) (i j:Nat),k∈l->∃ m,Instr.findNow .string (.string (bs k)) (l.mapIdx fun i' x=>zyC x (i'+i)) j=some (some (m,.bool true))
 | [],_,_,h=>by cases h
 | x :: l,i,j,h=>by
  rw[List.mapIdx_cons];unfold Instr.findNow;by_cases q:x=k
  ·have hx:(bs k == bs x)=true:=(by rw[zjH,beq_iff_eq];exact q.symm);simp only[zyC,Instr.sameNow,hx];exact ⟨_,rfl⟩
  ·have hx:(bs k == bs x)=false:=(by rw[zjH,beq_eq_false_iff_ne];exact fun e=>q e.symm);have hl:k∈l:=(by rcases List.mem_cons.1 h with e|e;exact absurd e.symm q;exact e);simp only[zyC,Instr.sameNow,hx];obtain ⟨m,hm⟩:=znE k l (i+1) (j+1) hl;refine ⟨m,?_⟩;simp only[zyC] at hm;rw[<- hm];congr 1;apply List.ext_getElem?;intro m;simp [List.getElem?_mapIdx];cases l[m]? <;> simp;omega
theorem znF (l:List Bs):(zoC l).toList=l.mapIdx fun i' x=>zyC x (i'+0):=by simp [zoC]
theorem zp4 (w:World) (l:List Bs) (k:Bs) (hk:k ∉ l):(Instr.findKey 9 (.string (bs k)) (zoC l).toList).run Tryz.prog w=.ok none w:=by
 unfold Instr.findKey;simp only[Sem.run_bind,run_underlying Tryz.underlying9,Result.andThen,znF,znD k l 0 0 hk];simp [Sem.run_pure]
theorem zyD (w:World) (l:List Bs) (k:Bs) (hk:k∈l):∃ m,(Instr.findKey 9 (.string (bs k)) (zoC l).toList).run Tryz.prog w=.ok (some (m,.bool true)) w:=by
 obtain ⟨m,hm⟩:=znE k l 0 0 hk;refine ⟨m,?_⟩;unfold Instr.findKey;simp only[Sem.run_bind,run_underlying Tryz.underlying9,Result.andThen,znF,hm];simp [Sem.run_pure]
theorem MapK_kept {w w':World} {m:Nat} {ks:List Bs} (h:MapK w m ks) (k:Kept w w'):MapK w' m ks:=h.only (Only.of_kept (S:=fun _=>False) k) (fun q=>q)
theorem MapK_made (w:World):MapK (w.alloc (.map #[] 0)) w.heap.size []:=heap_alloc_new w _
theorem zyE (w:World):(zeroValue 4).run Tryz.prog w=.ok (.bool false) w:=by kernel_rfl
theorem zvU (w:World) (m:Nat) (ks:List Bs) (k:Bs) (h:MapK w m ks):(Instr.lookup 73 (.map (some m)) (.string (bs k)) false).run Tryz.prog w=.ok (.bool (ks.contains k)) w:=by
 have hu:Tryz.prog.underlying 73=some (.map 9 4):=Tryz.underlying73;unfold MapK at h;unfold Instr.lookup;simp only[Sem.run_bind,run_underlying hu,Result.andThen];by_cases hk:k∈ks
 ·obtain ⟨j,hf⟩:=zyD w ks k hk;have hc:ks.contains k=true:=(by simpa using hk);simp only[getObj,Sem.run_bind,Sem.run,h,Result.andThen,Sem.run_pure,zeU,hf,hc];simp [Sem.run_pure]
 ·have hf:=zp4 w ks k hk;have hc:ks.contains k=false:=(by simpa using hk);simp only[getObj,Sem.run_bind,Sem.run,h,Result.andThen,Sem.run_pure,zeU,hf,hc,zyE];simp [Sem.run_pure]
theorem zEk (w:World) (m:Nat) (ks:List Bs) (k:Bs) (h:MapK w m ks) (hk:k ∉ ks):(Instr.mapUpdate 73 (.map (some m)) (.string (bs k)) (.bool true)).run Tryz.prog w=.ok () (zoD w m (ks ++ [k])):=by
 have hu:Tryz.prog.underlying 73=some (.map 9 4):=Tryz.underlying73;unfold MapK at h;unfold Instr.mapUpdate;simp only[Sem.run_bind,run_underlying hu,Result.andThen];simp only[getObj,Sem.run_bind,Sem.run,h,Result.andThen,Sem.run_pure,zeU,zp4 _ ks k hk,setObj];refine congrArg (Result.ok ()) ?_;unfold zoD;rw[zvT];simp [zyC]
theorem MapK.kept {w w':World} {m:Nat} {ks:List Bs} (h:MapK w m ks) (k:Kept w w'):MapK w' m ks:=h.only (Only.of_kept (S:=fun _=>False) k) (fun q=>q)
end Go.Proofs.YtmcoomlkbgiboaaGreatDoor
