/- Persons in memory, cell by cell; appended in a region that draws its order. Conditions: lengths. -/
import Derived.Test.YtmcoomlkbgiboaaGreatDoorU07
import Derived.Test.YtmcoomlkbgiboaaGreatDoorU08
import Derived.Test.YtmcoomlkbgiboaaGreatDoorU01
import Derived.Test.YtmcoomlkbgiboaaGreatDoorU05
import Derived.Test.YtmcoomlkbgiboaaGreatDoorU04
import Derived.Deep.AppendLies
import Derived.Deep.RegionHeld3
import Derived.Deep.Upon
import Derived.OpenShut
import Derived.ProofKit
import Derived.Lib.SmallJoins
import Derived.Deep.Slices
import Derived.SizedLaws
set_option linter.all false
set_option maxRecDepth 100000
set_option maxHeartbeats 1600000
namespace Go.Proofs.YtmcoomlkbgiboaaGreatDoor
open Go.RowKit
def zb2 (ps:List P4):List Value:=ps.flatMap fun q=>[.string (bs q.1),.string (bs q.2.1),.string (bs q.2.2.1),.string (bs q.2.2.2)]
theorem zxX (ps:List P4) (j:Nat) (q:P4) (h:ps[j]? = some q):(zb2 ps)[j * 4]? = some (.string (bs q.1))/\(zb2 ps)[j * 4+1]? = some (.string (bs q.2.1))/\(zb2 ps)[j * 4+2]? = some (.string (bs q.2.2.1))/\(zb2 ps)[j * 4+3]? = some (.string (bs q.2.2.2)):=by
 induction ps generalizing j with
 | nil=>cases h
 | cons p ps ih =>
  have e:zb2 (p :: ps)=[.string (bs p.1),.string (bs p.2.1),.string (bs p.2.2.1),.string (bs p.2.2.2)] ++ zb2 ps:=(by simp [zb2]);rw[e];cases j with
  | zero=>cases h;exact ⟨rfl,rfl,rfl,rfl⟩
  | succ j =>
   have:=ih j (by simpa using h);rw[List.getElem?_append_right (by simp;omega),List.getElem?_append_right (by simp;omega),List.getElem?_append_right (by simp;omega),List.getElem?_append_right (by simp;omega)];simp only[List.length_cons,List.length_nil];rw[show (j+1) * 4 - (0+1+1+1+1)=j * 4 from by omega,show (j+1) * 4+1 - (0+1+1+1+1)=j * 4+1 from by omega,show (j+1) * 4+2 - (0+1+1+1+1)=j * 4+2 from by omega,show (j+1) * 4+3 - (0+1+1+1+1)=j * 4+3 from by omega];exact this
theorem Perss.ownY {w:World} {base:Nat} {e:TypeId} {v:Value} {ps:List P4} (h:w.ownsRow base e 4 v ps.length (zb2 ps)):Perss w v ps:=by
 obtain ⟨a,c,hv,hc,_,h3⟩:=za1 h;refine ⟨a,c,hv,hc,fun q=>?_⟩;obtain ⟨g,ha,_,hg,hcell⟩:=h3 q;refine ⟨g,0,ha,hg,fun j x hx=>?_⟩;obtain ⟨c0,c1,c2,c3⟩:=zxX ps j x hx;simp only[Nat.zero_add];exact ⟨hcell _ _ c0,hcell _ _ c1,hcell _ _ c2,hcell _ _ c3⟩
theorem Tryz.infoPersY:(Tryz.prog.info? 77).map (fun i=>(i.zero,i.size,i.bytes))=some (some (.agg #[.string ⟨#[]⟩,.string ⟨#[]⟩,.string ⟨#[]⟩,.string ⟨#[]⟩]),4,64):=by kernel_rfl
theorem zsN (w:World) (g:Nat) (ps:List P4):∀ (o:Nat),(∀ j q,ps[j]? = some q->w.cell? ⟨g,o+j * 4,none⟩=some (.string (bs q.1))/\w.cell? ⟨g,o+j * 4+1,none⟩=some (.string (bs q.2.1))/\w.cell? ⟨g,o+j * 4+2,none⟩=some (.string (bs q.2.2.1))/\w.cell? ⟨g,o+j * 4+3,none⟩=some (.string (bs q.2.2.2))) ->
  ∀ j u,(zb2 ps)[j]? = some u->w.cell? ⟨g,o+j,none⟩=some u:=by
 induction ps with
 | nil=>intro o _ j u h;cases h
 | cons p ps ih =>
  intro o hc j u h;have e:zb2 (p :: ps)=.string (bs p.1) :: .string (bs p.2.1) :: .string (bs p.2.2.1) :: .string (bs p.2.2.2) :: zb2 ps:=(by simp [zb2]);rw[e] at h;obtain ⟨c0,c1,c2,c3⟩:=hc 0 p rfl;simp only[Nat.zero_mul,Nat.add_zero] at c0 c1 c2 c3
  match j with
  | 0=>simp at h;subst h;exact c0
  | 1=>simp at h;subst h;exact c1
  | 2=>simp at h;subst h;exact c2
  | 3=>simp at h;subst h;exact c3
  | j+4 =>
   have:=ih (o+4) (fun i q hq=>by
    have h4:=hc (i+1) q (by simpa using hq);rw[show o+(i+1) * 4=o+4+i * 4 from by omega] at h4;exact h4) j u (by simpa using h)
   rw[show o+(j+4)=o+4+j from by omega];exact this
theorem zvA (ps:List P4):(zb2 ps).length=ps.length * 4:=by
 induction ps with
 | nil=>rfl
 | cons p ps ih =>
    have e:zb2 (p :: ps)=.string (bs p.1) :: .string (bs p.2.1) :: .string (bs p.2.2.1) :: .string (bs p.2.2.2) :: zb2 ps:=(by simp [zb2]);rw[e];simp only[List.length_cons,ih];omega
theorem zvB (ps:List P4):∀ u∈zb2 ps,u.oneCell'=true:=by
 intro u hu;unfold zb2 at hu;rw[List.mem_flatMap] at hu;obtain ⟨q,_,hq⟩:=hu;simp at hq;rcases hq with rfl|rfl|rfl|rfl <;> rfl
theorem Perss.newsY {w:World} {ad:Addr} {n c:Nat} {ps:List P4} (h:Perss w (.slice (some ad) n c) ps):∀ j u,(zb2 ps)[j]? = some u->w.cell? (ad.add j)=some u:=by
 intro j u hu;obtain ⟨a,c',hv,_,h3⟩:=h;obtain ⟨rfl,_,_⟩:=Value.slice.inj hv;have hp:0<ps.length:=by
  cases ps with
  | nil=>cases hu
  | cons p ps=>simp
 obtain ⟨g,o,ha,_,hc⟩:=h3 hp;cases ha;rw[zxW];exact zsN w g ps o hc j u hu
theorem zoG (ps qs:List P4):zb2 (ps ++ qs)=zb2 ps ++ zb2 qs:=by simp [zb2]
theorem zsO (w:World) (row:Option Nat):w.grownBy w row:=World.grownBy.refl _ _
theorem ze0 (w:World) {ops:Array Oper} {o:Oper} {a:Act} {K:Act->World->Prop} {Q:Exit->Act->World->Prop} {E:Prop} (hgd:o.guard=none) (s x:Operand)
  (ho:o.op=.call { callee:=.builtin .append,args:=#[s,x],argTypes:=#[48,48] })
  (base:Nat) (v:Value) (ps:List P4) (hs:a.eval s=v) (hown:w.ownsRow base 77 4 v ps.length (zb2 ps)) (u:Value) (qs:List P4) (hx:a.eval x=u) (hu:Perss w u qs)
  (hb:ps.length+qs.length<=1000) (hbase:base<=w.heap.size)
  (h:∀ v' w',w'.ownsRow base 77 4 v' (ps ++ qs).length (zb2 (ps ++ qs))->w.grownBy w' v.ownBlock->K (a.put o.dst v') w') :
  if Region.wanted o (yielded ops a.tmps)=true then Oper.wp Tryz.prog o a w K Q else E:=by
 obtain ⟨i0,hi,hz0,hz1,hz2⟩:=info_parts Tryz.infoPersY;have hw:Region.wanted o (yielded ops a.tmps)=true:=(by simp [Region.wanted,hgd]);rw[if_pos hw];by_cases hq:0<qs.length
 ·have hu':=hu;obtain ⟨a',c',rfl,hc,h3⟩:=hu;obtain ⟨g,o2,rfl,_⟩:=h3 hq;refine wp_append_lies w s x 48 ho base 77 i0 _ 4 64 Tryz.underlying48 hi hz0 hz1 hz2 rfl (by decide) v ps.length (zb2 ps) hs hown ⟨g,o2,none⟩ qs.length c' (zb2 qs) hx (zvA qs) (Perss.newsY hu') (zvB qs) hq (by unfold maxLen;omega) (by omega) hbase w.heap.size rfl ?_;intro g' cap w' h1 h2 _ _;refine h _ _ ?_ h2;rw[List.length_append,zoG];exact h1
 ·obtain rfl:qs=[]:=List.length_eq_zero_iff.1 (by omega);obtain ⟨a',c',rfl,hc,_⟩:=hu;have hown':=hown;obtain ⟨a2,c2,rfl,hle,_,_⟩:=za1 hown;have hsrc:Src Tryz.prog i0.size 48 (.slice a' 0 c') 0 [] w:=by
   refine ⟨.inl ⟨_,Tryz.underlying48⟩,fun w'=>?_,?_,?_,by simp,by simp⟩
   ·simp [Builtin.lenOf]
   ·cases a' <;> simp [Builtin.firstCells,loadCells,loadCellsFrom]
   ·cases a' <;> simp [Builtin.firstCells,loadCells,loadCellsFrom]
  have hr:=run_append_nothing (P:=Tryz.prog) w 48 48 o.type 77 i0 Tryz.underlying48 hi a2 ps.length c2 hle (.slice a' 0 c') hsrc;unfold Oper.wp execOp;simp only[ho,resolve,invoke,builtin,Sem.run_bind,Sem.run_pure,Result.andThen_ok,List.map_toArray,List.map_cons,List.map_nil,hs,hx];simp only[List.length_nil];rw[hr];refine h _ _ ?_ (zsO _ _);rw[List.append_nil];exact hown'
end Go.Proofs.YtmcoomlkbgiboaaGreatDoor
namespace Go.Proofs.YtmcoomlkbgiboaaGreatDoor
open Go.ChangeShapes Go.WideShapes Go.ChangeAt Go.RowKit Go.Joins
theorem Tryz.cellsPers:Tryz.prog.cellsOf 77=4:=by kernel_rfl
section
variable {H:Type} {enc:TypeId × Value->H} {w:World} {base:Nat} {spare:Nat->Bool} {held:Bool}
end
theorem zxY (a:Addr) (w:World) (v:Value) (h:w.cell? a=some v):a=⟨a.block,a.off,none⟩:=by
 obtain ⟨b,o,s⟩:=a;cases s with
 | none=>rfl
 | some s =>
  exfalso;unfold World.cell? at h
  split at h
  ·simp at h
  ·cases h
theorem zmZ (b o i k:Nat):((⟨b,o,none⟩:Addr).add i).add k=⟨b,o+i+k,none⟩:=by
 unfold Addr.add;by_cases h1:i=0 <;> by_cases h2:k=0 <;> simp [h1,h2]
def Light {H:Type} (t:TypeId) (d:DataW H):Prop:=∀ m∈d.weights Tryz.prog t,m<=140737488355328
theorem zhA {H:Type} {e:TypeId} {d:DataW H} {n:Nat}:∀ {l:List (DataW H)},d∈l->n∈d.weights Tryz.prog e->n∈DataW.weightsAll Tryz.prog e l
 | [],h,_=>by cases h
 | x :: r,h,hn=>by
  simp only[DataW.weightsAll,List.mem_append];rcases List.mem_cons.1 h with q|q
  ·subst q;exact .inl hn
  ·exact .inr (zhA q hn)
theorem Light.part {H:Type} {t:TypeId} {fs:Array Field} {ps:List (DataW H)} (ht:Tryz.prog.underlying t=some (.struct fs)) (h:Light t (.agg ps)) {j:Nat} {u:TypeId} {d:DataW H} (hu:(fs.toList.map (·.type))[j]? = some u) (hd:ps[j]? = some d):Light u d:=by
 intro m hm;apply h;simp only[DataW.weights,ht];exact DataW.weights_mem_each hu hd m hm
theorem Light.str {H:Type} {l:List UInt8} {t:TypeId} (h:Light t (DataW.lit (H:=H) (.string l))):l.length<=140737488355328:=h _ (by simp [DataW.weights])
section
variable {H:Type} {enc:TypeId × Value->H} {w:World} {base:Nat} {spare:Nat->Bool} {held:Bool}
theorem zbH {n:Nat} {v:Value} {y:DataW H × List MemPlace} (h:DataW.trod enc Tryz.prog w base spare held n 9 [v]=some y) (hl:Light 9 y.1):∃ l:Bs,v=.string (bs l)/\l.length<=140737488355328:=by
 obtain ⟨s,h1,h2,h3⟩:=DataW.trod_string Tryz.underlying9 h;simp at h1;subst h2;exact ⟨s.data.toList,h1,hl.str⟩
theorem zlF {α:Type} [Inhabited α] {t e:TypeId} {k fuel:Nat} {v:Value} {y:DataW H × List MemPlace} (p:α->(Nat->Option Value)->Prop) (ht:Tryz.prog.underlying t=some (.slice e)) (hk:Tryz.prog.cellsOf e=k) (hk0:0<k)
  (hel:∀ n (cs:List Value) (z:DataW H × List MemPlace),cs.length=k->DataW.trod enc Tryz.prog w base spare held n e cs=some z->Light e z.1->∃ x,p x (fun j=>cs[j]?)) (hby:1<=Tryz.prog.bytesOf e)
  (h:DataW.trod enc Tryz.prog w base spare held fuel t [v]=some y) (hli:Light t y.1) :
  ∃ (xs:List α) (a:Option Addr) (c:Nat),v=.slice a xs.length c/\xs.length<=c/\xs.length<=140737488355328/\(0<xs.length->∃ g o,a=some ⟨g,o,none⟩/\g<w.heap.size/\∀ j x,xs[j]? = some x->∃ f:Nat->Option Value,p x f/\∀ i,i<k->w.cell? ⟨g,o+j * k+i,none⟩=f i)/\∀ x∈xs,∃ f,p x f:=by
 rcases Go.Deep.open_slice ht h with ⟨h0,_⟩|⟨a,len,cap,m,n,D,Pl,hcs,hb,hl,hm,hmm,hx,hi⟩
 ·simp at h0;subst h0;exact ⟨[],none,0,rfl,Nat.le_refl _,by simp,fun q=>absurd q (by simp),by simp⟩
 ·simp at hcs;subst hcs;rw[hk] at hi;subst hx;have hlen:len<=140737488355328:=by
   have h1:=hli ((((List.range len).map D).length+((List.range (m - len)).map fun j=>D (len+j)).length) * Tryz.prog.bytesOf e) (by simp [DataW.weights,ht]);have h2:len * 1<=(((List.range len).map D).length+((List.range (m - len)).map fun j=>D (len+j)).length) * Tryz.prog.bytesOf e:=Nat.mul_le_mul (by simp) hby
   omega
  have hel2:∀ i,i<len->Light e (D i):=by
   intro i hil n hn;apply hli;simp only[DataW.weights,ht,List.mem_cons,List.mem_append];exact .inr (.inl (zhA (List.mem_map.2 ⟨i,List.mem_range.2 hil,rfl⟩) hn))
  have each:∀ i,i<len->∃ x:α,∃ f:Nat->Option Value,p x f/\a=⟨a.block,a.off,none⟩/\∀ j,j<k->w.cell? ⟨a.block,a.off+i * k+j,none⟩=f j:=by
   have hspot:0<len->a=⟨a.block,a.off,none⟩:=by
    intro hpos;obtain ⟨cs',hc,_⟩:=hi 0 (by rw[hmm];split <;> omega);obtain ⟨_,hcl,hat⟩:=World.cells?_some hc;have e:(a.add (0 * k)).add 0=a:=(by unfold Addr.add;simp);have h0:=hat 0 (by omega);rw[e,List.getElem?_eq_getElem (by omega)] at h0;exact zxY a w _ h0
   intro i hil;obtain ⟨cs',hc,htr⟩:=hi i (by rw[hmm];split <;> omega);obtain ⟨_,hcl,hat⟩:=World.cells?_some hc;obtain ⟨x,hx⟩:=hel n cs' _ hcl htr (hel2 i hil);have ha:=hspot (by omega);refine ⟨x,_,hx,ha,fun j hj=>?_⟩;have h1:=hat j hj;have h2:=zmZ a.block a.off (i * k) j;rw[<- ha] at h2;rw[h2] at h1;exact h1
  obtain ⟨f,hf⟩:=Go.Deep.choose_lt each;refine ⟨(List.range len).map f,some a,cap,by simp,by simpa using hl,by simpa using hlen,fun hpos=>?_,?_⟩
  ·simp at hpos;obtain ⟨f0,_,ha,hc0⟩:=hf 0 hpos;refine ⟨a.block,a.off,by rw[<- ha],?_,fun j x hj=>?_⟩
   ·obtain ⟨cs',hc,_⟩:=hi 0 (by rw[hmm];split <;> omega);obtain ⟨_,hcl,hat⟩:=World.cells?_some hc;have e:(a.add (0 * k)).add 0=a:=(by unfold Addr.add;simp);have h0:=hat 0 (by omega);rw[e,List.getElem?_eq_getElem (by omega)] at h0;exact World.block_lt_of_cell? w (a:=a) h0
   ·rw[List.getElem?_map,Option.map_eq_some_iff] at hj;obtain ⟨i,hi1,rfl⟩:=hj;obtain ⟨hi2,hi3⟩:=List.getElem?_eq_some_iff.1 hi1;simp at hi2 hi3;subst hi3;obtain ⟨g,hg,_,hcell⟩:=hf j hi2;exact ⟨g,hg,hcell⟩
  ·intro x hx;obtain ⟨i,hi1,rfl⟩:=List.mem_map.1 hx;obtain ⟨g,hg,_⟩:=hf i (by simpa using hi1);exact ⟨g,hg⟩
theorem Tryz.cellsPair:Tryz.prog.cellsOf 62=2:=by kernel_rfl
theorem Tryz.cellsStr:Tryz.prog.cellsOf 9=1:=by kernel_rfl
theorem znB {fuel:Nat} {v:Value} {y:DataW H × List MemPlace} (h:DataW.trod enc Tryz.prog w base spare held fuel 22 [v]=some y) (hli:Light 22 y.1):∃ ps:List Pr,Prs w v ps/\ps.length<=140737488355328/\∀ q∈ps,q.1.length<=140737488355328/\q.2.length<=140737488355328:=by
 obtain ⟨ps,a,c,rfl,h1,h2,h3,h4⟩:=zlF (α:=Pr) (fun q f=>f 0=some (.string (bs q.1))/\f 1=some (.string (bs q.2))/\q.1.length<=140737488355328/\q.2.length<=140737488355328) Tryz.underlying22 Tryz.cellsPair (by omega) (by
  intro n cs z hl ht hz;obtain ⟨y0,y1,n',hx,_,h0,h1⟩:=Go.ChangeShapes.trod_struct2 Tryz.underlying62 ht
  match cs,hl with
  | [v0,v1],_ =>
   simp only[Tryz.cellsStr,List.drop_succ_cons,List.drop_zero,List.take_succ_cons,List.take_zero] at h0 h1;obtain ⟨q0,rfl,f0⟩:=zbH h0 (Light.part Tryz.underlying62 (by subst hx;exact hz) (j:=0) rfl rfl);obtain ⟨q1,rfl,f1⟩:=zbH h1 (Light.part Tryz.underlying62 (by subst hx;exact hz) (j:=1) rfl rfl);exact ⟨(q0,q1),rfl,rfl,f0,f1⟩) (of_decide_eq_true (by kernel_rfl)) h hli
 refine ⟨ps,⟨a,c,rfl,h1,fun q=>?_⟩,h2,fun q hq=>?_⟩
 ·obtain ⟨g,o,ha,hg,hc⟩:=h3 q;refine ⟨g,o,ha,hg,fun j x hx=>?_⟩;obtain ⟨f,⟨p0,p1,_⟩,hcell⟩:=hc j x hx;exact ⟨(hcell 0 (by omega)).trans p0,(hcell 1 (by omega)).trans p1⟩
 ·obtain ⟨f,_,_,p⟩:=h4 q hq;exact p
end
end Go.Proofs.YtmcoomlkbgiboaaGreatDoor
namespace Go.Proofs.YtmcoomlkbgiboaaGreatDoor
open Go.RowKit
abbrev zhB (k t:Bs) (vA vE vF:Value):Value:=.agg #[.string (bs k),.string (bs t),vA,vE,vF]
theorem zlG (ps:List Pr) (k:Bs) (h:∀ q∈ps,(q.1 == k)=false):za5 ps k=none:=by
 unfold za5;rw[List.find?_eq_none.2 (fun q hq=>by simp [h q hq])];rfl
theorem zqE (ps:List Pr) (k:Bs) (n:Nat) (q:Pr) (hq:ps[n]? = some q) (h:∀ x∈ps.take n,(x.1 == k)=false) (he:(q.1 == k)=true):za5 ps k=some q.2:=by
 unfold za5;obtain ⟨hn,rfl⟩:=List.getElem?_eq_some_iff.1 hq;have e:ps=ps.take n ++ ps[n] :: ps.drop (n+1):=by
  rw[<- List.drop_eq_getElem_cons hn,List.take_append_drop]
 conv=>lhs;rw[e]
 rw[List.find?_append,List.find?_eq_none.2 (fun q hq=>by simp [h q hq]),List.find?_cons_of_pos (by simpa using he)];rfl
def FieldPost (o:Option Bs) (w:World) (e:Ending) (w':World):Prop:=e=.returned (.tuple #[.string (bs (o.getD [])),.bool o.isSome])/\Kept w w'
theorem zlH (sk st:Bs) (vA vE vF:Value) (ps:List Pr) (k:Bs) (w:World) (hv:Prs w vF ps) (hN:ps.length<=1100000) :
  Calls Tryz.prog 35 #[zhB sk st vA vE vF,.string (bs k)] w (FieldPost (za5 ps k) w):=by
 have HV:=Hd hv;have HA:=Hd (zqE ps k);have HNO:=Hd (zlG ps k);obtain ⟨o,HO⟩:∃ o,Hid (za5 ps k=o):=⟨_,rfl⟩;rw[HO.out] at HA HNO ⊢;obtain ⟨a,c,rfl,hc,h3⟩:=hv;clear h3;unfold FieldPost;go_enter Tryz.func35,Tryz.ntmps35;go_wp2_with fail;simp only[zcO];go_loopw [11] (fun i wr=>∃ n:Nat,n<=ps.length/\i=.int .i64 n/\Hid (∀ x∈ps.take n,(x.1 == k)=false)/\Kept w wr) (fun i _=>ps.length - (intOf i).toNat)
 case atStart=>exact ⟨0,Nat.zero_le _,rfl,fun x h=>by simp at h,zaA _ _⟩
 case round =>
  obtain ⟨n,hn,rfl,HN,hkr⟩:=hrel;by_cases hlt:n<ps.length
  ·obtain ⟨q,hx⟩:∃ x,ps[n]? = some x:=⟨_,List.getElem?_eq_getElem hlt⟩;obtain ⟨a',c',hv',hc',h3⟩:=HV.out.kept hkr;obtain ⟨rfl,hdead,rfl⟩:=Value.slice.inj hv';clear hdead;obtain ⟨g,o2,rfl,hg,hcc⟩:=h3 (by omega);obtain ⟨c0,c1⟩:=hcc n q hx;have HR:=Hd hkr;cases hxk:(q.1 == k)
   ·have HS:Hid (∀ x∈ps.take (n+1),(x.1 == k)=false):=by
     intro x hxm;obtain ⟨hk',rfl⟩:=List.getElem?_eq_some_iff.1 hx;rw[List.take_succ_eq_append_getElem hk'] at hxm;rcases List.mem_append.1 hxm with h|h
     ·exact HN.out x h
     ·simp at h;subst h;exact hxk
    clear hkr hcc h3 hv' hc' hx HN;obtain ⟨x,y⟩:=q;simp only at c0 c1 hxk;go_wp2_with fail;go_roundw
    case rel=>exact ⟨n+1,by omega,by go_num,HS.out,HR.out.trans (zaA _ _)⟩
    case measure=>simp [intOf];omega
   ·have HF:=Hd (HA.out n q hx HN.out hxk);clear hkr hcc h3 hv' hc' hx HN;obtain ⟨x,y⟩:=q;simp only at c0 c1 hxk HF;go_wp2_with fail;go_ret2;exact ⟨by rw[HF.out];rfl,HR.out.trans (zaA _ _)⟩
  ·have HF:Hid (o=none):=HNO.out (fun q hq=>by
    have h:=HN.out;rw[List.take_of_length_le (by omega)] at h;exact h q hq)
   have HR:=Hd hkr;clear hkr HN;go_wp2_with fail;go_ret2;exact ⟨by rw[HF.out];rfl,HR.out⟩
theorem znC (sk st:Bs) (vA vE vF:Value) (ps:List Pr) (k:Bs) (w:World) (hv:Prs w vF ps) (hN:ps.length<=1100000) :
  Calls Tryz.prog 104 #[zhB sk st vA vE vF,.string (bs k)] w (FieldPost (za5 ps k) w):=by
 have HV:=Hd hv;have HA:=Hd (zqE ps k);have HNO:=Hd (zlG ps k);obtain ⟨o,HO⟩:∃ o,Hid (za5 ps k=o):=⟨_,rfl⟩;rw[HO.out] at HA HNO ⊢;obtain ⟨a,c,rfl,hc,h3⟩:=hv;clear h3;unfold FieldPost;go_enter Tryz.func104,Tryz.ntmps104;go_wp2_with fail;simp only[zcO];go_loopw [11] (fun i wr=>∃ n:Nat,n<=ps.length/\i=.int .i64 n/\Hid (∀ x∈ps.take n,(x.1 == k)=false)/\Kept w wr) (fun i _=>ps.length - (intOf i).toNat)
 case atStart=>exact ⟨0,Nat.zero_le _,rfl,fun x h=>by simp at h,zaA _ _⟩
 case round =>
  obtain ⟨n,hn,rfl,HN,hkr⟩:=hrel;by_cases hlt:n<ps.length
  ·obtain ⟨q,hx⟩:∃ x,ps[n]? = some x:=⟨_,List.getElem?_eq_getElem hlt⟩;obtain ⟨a',c',hv',hc',h3⟩:=HV.out.kept hkr;obtain ⟨rfl,hdead,rfl⟩:=Value.slice.inj hv';clear hdead;obtain ⟨g,o2,rfl,hg,hcc⟩:=h3 (by omega);obtain ⟨c0,c1⟩:=hcc n q hx;have HR:=Hd hkr;cases hxk:(q.1 == k)
   ·have HS:Hid (∀ x∈ps.take (n+1),(x.1 == k)=false):=by
     intro x hxm;obtain ⟨hk',rfl⟩:=List.getElem?_eq_some_iff.1 hx;rw[List.take_succ_eq_append_getElem hk'] at hxm;rcases List.mem_append.1 hxm with h|h
     ·exact HN.out x h
     ·simp at h;subst h;exact hxk
    clear hkr hcc h3 hv' hc' hx HN;obtain ⟨x,y⟩:=q;simp only at c0 c1 hxk;go_wp2_with fail;go_roundw
    case rel=>exact ⟨n+1,by omega,by go_num,HS.out,HR.out.trans (zaA _ _)⟩
    case measure=>simp [intOf];omega
   ·have HF:=Hd (HA.out n q hx HN.out hxk);clear hkr hcc h3 hv' hc' hx HN;obtain ⟨x,y⟩:=q;simp only at c0 c1 hxk HF;go_wp2_with fail;go_ret2;exact ⟨by rw[HF.out];rfl,HR.out.trans (zaA _ _)⟩
  ·have HF:Hid (o=none):=HNO.out (fun q hq=>by
    have h:=HN.out;rw[List.take_of_length_le (by omega)] at h;exact h q hq)
   have HR:=Hd hkr;clear hkr HN;go_wp2_with fail;go_ret2;exact ⟨by rw[HF.out];rfl,HR.out⟩
end Go.Proofs.YtmcoomlkbgiboaaGreatDoor
