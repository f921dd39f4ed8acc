/- Arguments opened: a text, a person. No condition. -/
import Derived.Test.YtmcoomlkbgiboaaGreatDoorU07
import Derived.Test.YtmcoomlkbgiboaaGreatDoorU01
import Derived.Test.YtmcoomlkbgiboaaGreatDoorU08
import Derived.Test.YtmcoomlkbgiboaaGreatDoorU05
import Derived.Test.YtmcoomlkbgiboaaGreatDoorU04
import Derived.OpenShut
import Derived.ProofKit
import Derived.Lib.SmallJoins
import Derived.Deep.Slices
import Derived.SizedLaws

set_option linter.all false
namespace Go.Proofs.YtmcoomlkbgiboaaGreatDoor
open Go.ChangeShapes Go.WideShapes Go.ChangeAt Go.RowKit Go.Joins

theorem Tryz.cellsPers:Tryz.prog.cellsOf 77=4:=by kernel_rfl
section
variable {H:Type} {enc:TypeId × Value→H} {w:World} {base:Nat} {spare:Nat→Bool} {held:Bool}
end
end Go.Proofs.YtmcoomlkbgiboaaGreatDoor

/- Slices of pairs, opened; rows of any kind. No condition. -/
set_option linter.all false
namespace Go.Proofs.YtmcoomlkbgiboaaGreatDoor
open Go.ChangeShapes Go.WideShapes Go.ChangeAt Go.RowKit Go.Joins

theorem spot_bare (a:Addr) (w:World) (v:Value) (h:w.cell? a=some v):a=⟨a.block,a.off,none⟩:=by
 obtain ⟨b,o,s⟩:=a
 cases s with
 | none=>rfl
 | some s =>
  exfalso
  unfold World.cell? at h
  split at h
  ·simp at h
  ·cases h
theorem add_twice_bare (b o i k:Nat):((⟨b,o,none⟩:Addr).add i).add k=⟨b,o+i+k,none⟩:=by
 unfold Addr.add
 by_cases h1:i=0 <;> by_cases h2:k=0 <;> simp [h1,h2]
/-- Each text and each list that is read has a length that a machine can tell. -/
def Light {H:Type} (t:TypeId) (d:DataW H):Prop:=∀ m∈d.weights Tryz.prog t,m≤140737488355328
theorem weightsAll_mem {H:Type} {e:TypeId} {d:DataW H} {n:Nat}:∀ {l:List (DataW H)},d∈l→n∈d.weights Tryz.prog e→n∈DataW.weightsAll Tryz.prog e l
 | [],h,_=>by cases h
 | x :: r,h,hn=>by
  simp only [DataW.weightsAll,List.mem_append]
  rcases List.mem_cons.1 h with q | q
  ·subst q; exact .inl hn
  ·exact .inr (weightsAll_mem q hn)
theorem Light.part {H:Type} {t:TypeId} {fs:Array Field} {ps:List (DataW H)} (ht:Tryz.prog.underlying t=some (.struct fs)) (h:Light t (.agg ps)) {j:Nat} {u:TypeId} {d:DataW H} (hu:(fs.toList.map (·.type))[j]? = some u) (hd:ps[j]? = some d):Light u d:=by
 intro m hm
 apply h
 simp only [DataW.weights,ht]
 exact DataW.weights_mem_each hu hd m hm
theorem Light.str {H:Type} {l:List UInt8} {t:TypeId} (h:Light t (DataW.lit (H:=H) (.string l))):l.length≤140737488355328:=h _ (by simp [DataW.weights])
section
variable {H:Type} {enc:TypeId × Value→H} {w:World} {base:Nat} {spare:Nat→Bool} {held:Bool}
theorem trod_str_l {n:Nat} {v:Value} {y:DataW H × List MemPlace} (h:DataW.trod enc Tryz.prog w base spare held n 9 [v]=some y) (hl:Light 9 y.1):∃ l:Bs,v=.string (bs l)∧l.length≤140737488355328:=by
 obtain ⟨s,h1,h2,h3⟩:=DataW.trod_string Tryz.underlying9 h
 simp at h1
 subst h2
 exact ⟨s.data.toList,h1,hl.str⟩
theorem open_rows {α:Type} [Inhabited α] {t e:TypeId} {k fuel:Nat} {v:Value} {y:DataW H × List MemPlace} (p:α→(Nat→Option Value)→Prop) (ht:Tryz.prog.underlying t=some (.slice e)) (hk:Tryz.prog.cellsOf e=k) (hk0:0<k)
  (hel:∀ n (cs:List Value) (z:DataW H × List MemPlace),cs.length=k→DataW.trod enc Tryz.prog w base spare held n e cs=some z→Light e z.1→∃ x,p x (fun j=>cs[j]?)) (hby:1≤Tryz.prog.bytesOf e)
  (h:DataW.trod enc Tryz.prog w base spare held fuel t [v]=some y) (hli:Light t y.1) :
  ∃ (xs:List α) (a:Option Addr) (c:Nat),v=.slice a xs.length c∧xs.length≤c∧xs.length≤140737488355328∧(0<xs.length→∃ g o,a=some ⟨g,o,none⟩∧g<w.heap.size∧∀ j x,xs[j]? = some x→∃ f:Nat→Option Value,p x f∧∀ i,i<k→w.cell? ⟨g,o+j * k+i,none⟩=f i)∧∀ x∈xs,∃ f,p x f:=by
 rcases Go.Deep.open_slice ht h with ⟨h0,_⟩ | ⟨a,len,cap,m,n,D,Pl,hcs,hb,hl,hm,hmm,hx,hi⟩
 ·simp at h0
  subst h0
  exact ⟨[],none,0,rfl,Nat.le_refl _,by simp,fun q=>absurd q (by simp),by simp⟩
 ·simp at hcs
  subst hcs
  rw [hk] at hi
  subst hx
  have hlen:len≤140737488355328:=by
   have h1:=hli ((((List.range len).map D).length+((List.range (m - len)).map fun j=>D (len+j)).length) * Tryz.prog.bytesOf e) (by simp [DataW.weights,ht])
   have h2:len * 1≤(((List.range len).map D).length+((List.range (m - len)).map fun j=>D (len+j)).length) * Tryz.prog.bytesOf e:=Nat.mul_le_mul (by simp) hby
   omega
  have hel2:∀ i,i<len→Light e (D i):=by
   intro i hil n hn
   apply hli
   simp only [DataW.weights,ht,List.mem_cons,List.mem_append]
   exact .inr (.inl (weightsAll_mem (List.mem_map.2 ⟨i,List.mem_range.2 hil,rfl⟩) hn))
  have each:∀ i,i<len→∃ x:α,∃ f:Nat→Option Value,p x f∧a=⟨a.block,a.off,none⟩∧∀ j,j<k→w.cell? ⟨a.block,a.off+i * k+j,none⟩=f j:=by
   have hspot:0<len→a=⟨a.block,a.off,none⟩:=by
    intro hpos
    obtain ⟨cs',hc,_⟩:=hi 0 (by rw [hmm]; split <;> omega)
    obtain ⟨_,hcl,hat⟩:=World.cells?_some hc
    have e:(a.add (0 * k)).add 0=a:=by unfold Addr.add; simp
    have h0:=hat 0 (by omega)
    rw [e,List.getElem?_eq_getElem (by omega)] at h0
    exact spot_bare a w _ h0
   intro i hil
   obtain ⟨cs',hc,htr⟩:=hi i (by rw [hmm]; split <;> omega)
   obtain ⟨_,hcl,hat⟩:=World.cells?_some hc
   obtain ⟨x,hx⟩:=hel n cs' _ hcl htr (hel2 i hil)
   have ha:=hspot (by omega)
   refine ⟨x,_,hx,ha,fun j hj=>?_⟩
   have h1:=hat j hj
   have h2:=add_twice_bare a.block a.off (i * k) j
   rw [← ha] at h2
   rw [h2] at h1; exact h1
  obtain ⟨f,hf⟩:=Go.Deep.choose_lt each
  refine ⟨(List.range len).map f,some a,cap,by simp,by simpa using hl,by simpa using hlen,fun hpos=>?_,?_⟩
  ·simp at hpos
   obtain ⟨f0,_,ha,hc0⟩:=hf 0 hpos
   refine ⟨a.block,a.off,by rw [← ha],?_,fun j x hj=>?_⟩
   ·obtain ⟨cs',hc,_⟩:=hi 0 (by rw [hmm]; split <;> omega)
    obtain ⟨_,hcl,hat⟩:=World.cells?_some hc
    have e:(a.add (0 * k)).add 0=a:=by unfold Addr.add; simp
    have h0:=hat 0 (by omega)
    rw [e,List.getElem?_eq_getElem (by omega)] at h0
    exact World.block_lt_of_cell? w (a:=a) h0
   ·rw [List.getElem?_map,Option.map_eq_some_iff] at hj
    obtain ⟨i,hi1,rfl⟩:=hj
    obtain ⟨hi2,hi3⟩:=List.getElem?_eq_some_iff.1 hi1
    simp at hi2 hi3
    subst hi3
    obtain ⟨g,hg,_,hcell⟩:=hf j hi2
    exact ⟨g,hg,hcell⟩
  ·intro x hx
   obtain ⟨i,hi1,rfl⟩:=List.mem_map.1 hx
   obtain ⟨g,hg,_⟩:=hf i (by simpa using hi1)
   exact ⟨g,hg⟩
theorem Tryz.cellsPair:Tryz.prog.cellsOf 62=2:=by kernel_rfl
theorem Tryz.cellsStr:Tryz.prog.cellsOf 9=1:=by kernel_rfl
set_option maxRecDepth 100000 in
theorem cell_pairs {fuel:Nat} {v:Value} {y:DataW H × List MemPlace} (h:DataW.trod enc Tryz.prog w base spare held fuel 22 [v]=some y) (hli:Light 22 y.1):∃ ps:List Pr,Prs w v ps∧ps.length≤140737488355328∧∀ q∈ps,q.1.length≤140737488355328∧q.2.length≤140737488355328:=by
 obtain ⟨ps,a,c,rfl,h1,h2,h3,h4⟩:=open_rows (α:=Pr) (fun q f=>f 0=some (.string (bs q.1))∧f 1=some (.string (bs q.2))∧q.1.length≤140737488355328∧q.2.length≤140737488355328) Tryz.underlying22 Tryz.cellsPair (by omega) (by
  intro n cs z hl ht hz
  obtain ⟨y0,y1,n',hx,_,h0,h1⟩:=Go.ChangeShapes.trod_struct2 Tryz.underlying62 ht
  match cs,hl with
  | [v0,v1],_ =>
   simp only [Tryz.cellsStr,List.drop_succ_cons,List.drop_zero,List.take_succ_cons,List.take_zero] at h0 h1
   obtain ⟨q0,rfl,f0⟩:=trod_str_l h0 (Light.part Tryz.underlying62 (by subst hx; exact hz) (j:=0) rfl rfl)
   obtain ⟨q1,rfl,f1⟩:=trod_str_l h1 (Light.part Tryz.underlying62 (by subst hx; exact hz) (j:=1) rfl rfl)
   exact ⟨(q0,q1),rfl,rfl,f0,f1⟩) (of_decide_eq_true (by kernel_rfl)) h hli
 refine ⟨ps,⟨a,c,rfl,h1,fun q=>?_⟩,h2,fun q hq=>?_⟩
 ·obtain ⟨g,o,ha,hg,hc⟩:=h3 q
  refine ⟨g,o,ha,hg,fun j x hx=>?_⟩
  obtain ⟨f,⟨p0,p1,_⟩,hcell⟩:=hc j x hx
  exact ⟨(hcell 0 (by omega)).trans p0,(hcell 1 (by omega)).trans p1⟩
 ·obtain ⟨f,_,_,p⟩:=h4 q hq
  exact p
end
end Go.Proofs.YtmcoomlkbgiboaaGreatDoor

/- Field and Year of package bib and of its reference. Conditions: lengths. -/
set_option linter.all false
namespace Go.Proofs.YtmcoomlkbgiboaaGreatDoor
open Go.RowKit

abbrev srcV (k t:Bs) (vA vE vF:Value):Value:=.agg #[.string (bs k),.string (bs t),vA,vE,vF]
theorem fieldL_none (ps:List Pr) (k:Bs) (h:∀ q∈ps,(q.1 == k)=false):fieldL ps k=none:=by
 unfold fieldL
 rw [List.find?_eq_none.2 (fun q hq=>by simp [h q hq])]; rfl
theorem fieldL_at (ps:List Pr) (k:Bs) (n:Nat) (q:Pr) (hq:ps[n]? = some q) (h:∀ x∈ps.take n,(x.1 == k)=false) (he:(q.1 == k)=true):fieldL ps k=some q.2:=by
 unfold fieldL
 obtain ⟨hn,rfl⟩:=List.getElem?_eq_some_iff.1 hq
 have e:ps=ps.take n ++ ps[n] :: ps.drop (n+1):=by
  rw [← List.drop_eq_getElem_cons hn,List.take_append_drop]
 conv=>lhs; rw [e]
 rw [List.find?_append,List.find?_eq_none.2 (fun q hq=>by simp [h q hq]),List.find?_cons_of_pos (by simpa using he)]
 rfl
def FieldPost (o:Option Bs) (w:World) (e:Ending) (w':World):Prop:=e=.returned (.tuple #[.string (bs (o.getD [])),.bool o.isSome])∧Kept w w'

set_option maxRecDepth 100000 in
set_option maxHeartbeats 1600000 in
theorem field_any (sk st:Bs) (vA vE vF:Value) (ps:List Pr) (k:Bs) (w:World) (hv:Prs w vF ps) (hN:ps.length≤1100000) :
  Calls Tryz.prog 35 #[srcV sk st vA vE vF,.string (bs k)] w (FieldPost (fieldL ps k) w):=by
 have HV:=Lib.hid hv
 have HA:=Lib.hid (fieldL_at ps k)
 have HNO:=Lib.hid (fieldL_none ps k)
 obtain ⟨o,HO⟩:∃ o,Hid (fieldL ps k=o):=⟨_,rfl⟩
 rw [HO.out] at HA HNO ⊢
 obtain ⟨a,c,rfl,hc,h3⟩:=hv
 clear h3
 unfold FieldPost
 go_enter Tryz.func35,Tryz.ntmps35
 go_wp2_with fail
 simp only [mk_bs]
 go_loopw [11] (fun i wr=>∃ n:Nat,n≤ps.length∧i=.int .i64 n∧Hid (∀ x∈ps.take n,(x.1 == k)=false)∧Kept w wr) (fun i _=>ps.length - (intOf i).toNat)
 case atStart=>exact ⟨0,Nat.zero_le _,rfl,fun x h=>by simp at h,kept_alloc _ _⟩
 case round =>
  obtain ⟨n,hn,rfl,HN,hkr⟩:=hrel
  by_cases hlt:n<ps.length
  ·obtain ⟨q,hx⟩:∃ x,ps[n]? = some x:=⟨_,List.getElem?_eq_getElem hlt⟩
   obtain ⟨a',c',hv',hc',h3⟩:=HV.out.kept hkr
   obtain ⟨rfl,hdead,rfl⟩:=Value.slice.inj hv'
   clear hdead
   obtain ⟨g,o2,rfl,hg,hcc⟩:=h3 (by omega)
   obtain ⟨c0,c1⟩:=hcc n q hx
   have HR:=Lib.hid hkr
   cases hxk:(q.1 == k)
   ·have HS:Hid (∀ x∈ps.take (n+1),(x.1 == k)=false):=by
     intro x hxm
     obtain ⟨hk',rfl⟩:=List.getElem?_eq_some_iff.1 hx
     rw [List.take_succ_eq_append_getElem hk'] at hxm
     rcases List.mem_append.1 hxm with h | h
     ·exact HN.out x h
     ·simp at h; subst h; exact hxk
    clear hkr hcc h3 hv' hc' hx HN
    obtain ⟨x,y⟩:=q
    simp only at c0 c1 hxk
    go_wp2_with fail
    go_roundw
    case rel=>exact ⟨n+1,by omega,by go_num,HS.out,HR.out.trans (kept_alloc _ _)⟩
    case measure=>simp [intOf]; omega
   ·have HF:=Lib.hid (HA.out n q hx HN.out hxk)
    clear hkr hcc h3 hv' hc' hx HN
    obtain ⟨x,y⟩:=q
    simp only at c0 c1 hxk HF
    go_wp2_with fail
    go_ret2
    exact ⟨by rw [HF.out]; rfl,HR.out.trans (kept_alloc _ _)⟩
  ·have HF:Hid (o=none):=HNO.out (fun q hq=>by
    have h:=HN.out
    rw [List.take_of_length_le (by omega)] at h
    exact h q hq)
   have HR:=Lib.hid hkr
   clear hkr HN
   go_wp2_with fail
   go_ret2
   exact ⟨by rw [HF.out]; rfl,HR.out⟩

end Go.Proofs.YtmcoomlkbgiboaaGreatDoor

/- Year and isName of package bib; the reference's Year. Conditions: lengths. -/
set_option linter.all false
namespace Go.Proofs.YtmcoomlkbgiboaaGreatDoor
open Go.RowKit

theorem dec_low (l:Bs) (i:Nat) (h:at8 l i<128):dec (bs l) i=(at8 l i,1):=by unfold dec; rw [byteAt_bs,if_pos h]
theorem dec_hi (l:Bs) (i:Nat) (h:128≤at8 l i):128≤(dec (bs l) i).1:=by
 have m0:∀ k a b,¬ moreOf (bs l) k a b<0→128≤a→a - 128≤moreOf (bs l) k a b∧moreOf (bs l) k a b≤b - 128:=by
  intro k a b q hl
  obtain ⟨_,h1,h2,h3⟩:=more_yes (s:=bs l) (i:=k) (l:=a) (h:=b) (by omega)
  omega
 have h:128≤byteAt (bs l) i:=h
 unfold dec
 rw [if_neg (by omega)]
 split
 ·split
  ·have:=m0 (i+1) 128 191 (by omega) (by omega)
   simp only; omega
  ·simp only; omega
 split
 ·unfold three
  split
  ·simp only; omega
  ·rename_i q
   simp only [not_or] at q
   have d:128≤low3 (byteAt (bs l) i)∧(byteAt (bs l) i=224→low3 (byteAt (bs l) i)=160):=by unfold low3; split <;> omega
   have a:=m0 (i+1) (low3 (byteAt (bs l) i)) (high3 (byteAt (bs l) i)) q.1 d.1
   have b:=m0 (i+2) 128 191 q.2 (by omega)
   simp only; omega
 split
 ·unfold four
  split
  ·simp only; omega
  ·rename_i q
   simp only [not_or] at q
   have d:128≤low4 (byteAt (bs l) i)∧(byteAt (bs l) i=240→low4 (byteAt (bs l) i)=144):=by unfold low4; split <;> omega
   have a:=m0 (i+1) (low4 (byteAt (bs l) i)) (high4 (byteAt (bs l) i)) q.1 d.1
   have b:=m0 (i+2) 128 191 q.2.1 (by omega)
   have b2:=m0 (i+3) 128 191 q.2.2 (by omega)
   simp only; omega
 ·simp only; omega

def digB (b:UInt8):Bool:=decide (48≤b.toNat) && decide (b.toNat≤57)
def numL (v:Bs):Nat:=v.foldl (fun n b=>10 * n+(b.toNat - 48)) 0
def yearL (v:Bs):Int:=if v.length≤4∧v.all digB=true then numL v else 0
theorem numL_snoc (v:Bs) (b:UInt8):numL (v ++ [b])=10 * numL v+(b.toNat - 48):=by simp [numL]
theorem numL_lt (v:Bs) (h:v.all digB=true):numL v<10 ^ v.length:=by
 refine snoc_ind (P:=fun v=>v.all digB=true→numL v<10 ^ v.length) ?_ ?_ v h
 ·intro _; simp [numL]
 ·intro l b ih h
  rw [List.all_append,Bool.and_eq_true] at h
  have h1:=ih h.1
  have h2:b.toNat≤57:=by have:=h.2; simp [digB] at this; omega
  rw [numL_snoc,List.length_append,List.length_cons,List.length_nil,Nat.pow_succ]
  omega
theorem dig_at (l:Bs) (i:Nat) (h:i<l.length):digB l[i]=true↔48≤at8 l i∧at8 l i≤57:=by
 rw [at8_get l i h]; simp [digB]; omega
theorem yearL_bad (v:Bs) (i:Nat) (h:i<v.length) (hb:¬ (48≤at8 v i∧at8 v i≤57)):yearL v=0:=by
 unfold yearL
 rw [if_neg]
 rintro ⟨_,q⟩
 rw [List.all_eq_true] at q
 exact hb ((dig_at v i h).1 (q _ (List.getElem_mem h)))
theorem yearL_good (v:Bs) (h4:v.length≤4) (h:v.all digB=true):yearL v=numL v:=by unfold yearL; rw [if_pos ⟨h4,h⟩]
theorem num_bound (v:Bs) (h4:v.length≤4) (h:v.all digB=true):numL v≤9999:=by
 have h1:=numL_lt v h
 have h2:10 ^ v.length≤10 ^ 4:=Nat.pow_le_pow_right (by omega) h4
 omega
theorem all_step (v:Bs) (k:Nat) (hk:k<v.length) (h:(v.take k).all digB=true) (hd:48≤at8 v k∧at8 v k≤57):(v.take (k+1)).all digB=true∧(numL (v.take (k+1)):Int)=10 * numL (v.take k)+(at8 v k - 48):=by
 rw [take_next v k hk,List.all_append,h]
 refine ⟨by simp [(dig_at v k hk).2 hd],?_⟩
 rw [numL_snoc,at8_get v k hk]
 have:48≤v[k].toNat:=by rw [at8_get v k hk] at hd; omega
 omega

/-- One step of a range over a text. -/
theorem iter_next (w wr:World) (g:Nat) (v:Bs) (pos n:Nat) (hit:wr.heap[g]? = some (.stringIter (bs v) pos)) (hk:Kept w wr) (hg:w.heap.size≤g) :
  (wr.iterAt g (bs v) (pos+n)).heap[g]? = some (.stringIter (bs v) (pos+n))∧Kept w (wr.iterAt g (bs v) (pos+n))∧(wr.iterAt g (bs v) (pos+n)).iterPos g=pos+n∧wr.iterPos g=pos:=by
 have h1:=Lib.iterAt_heap wr g (bs v) pos (pos+n) hit
 exact ⟨h1,Lib.below_iterAt hk hg (bs v) _,by simp [World.iterPos,h1],by simp [World.iterPos,hit]⟩
end Go.Proofs.YtmcoomlkbgiboaaGreatDoor
