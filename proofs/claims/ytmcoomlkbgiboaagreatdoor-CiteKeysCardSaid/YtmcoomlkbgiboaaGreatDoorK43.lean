/- What every row of the laws of cite needs: the world of the witness with the seven variables, the table of tens and that of spaces. No condition. -/
import Derived.Test.YtmcoomlkbgiboaaGreatDoorK42
import Derived.Test.YtmcoomlkbgiboaaGreatDoorK02
import Derived.Test.YtmcoomlkbgiboaaGreatDoorK03
import Derived.Test.YtmcoomlkbgiboaaGreatDoorK12
import Derived.Lib.ItoaNum
import Derived.Lib.Space
import Derived.Lib.SpaceR
import Derived.Stop.LaidErr
import Derived.MakeChecks
import Derived.Shelf.Vars
import Derived.Deep.DeepWitnessRowRef
import Derived.OpenShut
import Derived.ProofKit
import Derived.Lib.SmallJoins
import Derived.Deep.Slices
import Derived.SizedLaws
import Derived.Deep.Strs

set_option linter.all false
namespace Go.Proofs.YtmcoomlkbgiboaaGreatDoor
open Go.ChangeShapes Go.WideShapes Go.ChangeAt Go.RowKit

abbrev TabW (W:World):Prop:=Lib.TabIs Tryz.prog W "internal/strconv.uint64pow10" .u64 Lib.pow10Tab∧Lib.TabIs Tryz.prog W "strings.asciiSpace" .u8 Lib.asciiSpaceTab
def intCells (k:IntKind) (zs:List Int):Array Value:=(zs.map fun z=>Value.int k z).toArray
def tab32:List Int:=[0,1,28,2,29,14,24,3,30,22,20,15,25,17,4,8,31,27,13,23,21,19,16,7,26,12,18,6,11,5,10,9]
def tab64:List Int:=[0,1,56,2,57,49,28,3,61,58,42,50,38,29,17,4,62,47,59,36,45,43,51,22,53,39,33,30,24,18,12,5,63,55,48,27,60,41,37,16,46,35,44,21,52,32,23,11,54,26,40,15,34,20,31,10,25,14,19,9,13,8,7,6]
noncomputable def lowC:Nat:=(World.holding Tryz.prog default ⟨#[],#[],[]⟩).heap.size
/-- A world for the witness. -/
noncomputable def laidWorldS (os:Os):World :=
 let w0:=World.holding Tryz.prog os ⟨#[.cells (Lib.whiteT.map fun (z:Nat)=>Value.int .u16 (z:Int)).toArray 240,.cells #[.slice (some ⟨lowC,0,none⟩) 7 7,.slice none 0 0,.int .i64 2] 237],#[],[]⟩
 { w0 with heap:=((((((w0.heap.modify 4 (putCells firstCells)).modify 5 (putCells acceptCells)).modify 6 (putCells (intCells .u8 tab32))).modify 7 (putCells (intCells .u8 tab64))).modify 3 (putCells (intCells .u64 Lib.pow10Tab))).modify 0 (putCells (intCells .u8 Lib.asciiSpaceTab))).modify 1 (putCells #[.pointer (some ⟨lowC+1,0,none⟩)]) }
abbrev laidS:List (String × DataW Unit):=[("math/bits.deBruijn32tab",Rows.laid_math_bits_deBruijn32tab),("math/bits.deBruijn64tab",Rows.laid_math_bits_deBruijn64tab),("internal/strconv.uint64pow10",Rows.laid_internal_strconv_uint64pow10),("unicode/utf8.acceptRanges",Rows.laid_unicode_utf8_acceptRanges),("unicode.White_Space",Rows.laid_unicode_White_Space),("strings.asciiSpace",Rows.laid_strings_asciiSpace),("unicode/utf8.first",Rows.laid_unicode_utf8_first)]
/-- Are places told apart? By the bits of one number. -/
def ndB:List MemPlace→Nat→Bool
 | [],_=>true
 | .cell b off :: r,s=>decide (off<512) && (!s.testBit (b * 512+off) && ndB r (s ||| 2 ^ (b * 512+off)))
 | .map _ :: _,_=>false
theorem ndB_ok:∀ (ps:List MemPlace) (s:Nat),ndB ps s=true→ps.Nodup∧∀ p∈ps,∃ b off,p=.cell b off∧off<512∧s.testBit (b * 512+off)=false
 | [],_,_=>⟨List.nodup_nil,fun _ h=>(List.not_mem_nil h).elim⟩
 | .cell b off :: r,s,h=>by
  unfold ndB at h
  rw [Bool.and_eq_true,Bool.and_eq_true,decide_eq_true_eq,Bool.not_eq_true'] at h
  obtain ⟨h1,h2,h3⟩:=h
  obtain ⟨i1,i2⟩:=ndB_ok r _ h3
  refine ⟨List.nodup_cons.2 ⟨fun hm=>?_,i1⟩,fun p hp=>?_⟩
  ·obtain ⟨b',off',e,_,q⟩:=i2 _ hm
   cases e
   rw [Nat.testBit_or,Nat.testBit_two_pow_self,Bool.or_true] at q
   cases q
  ·rcases List.mem_cons.1 hp with rfl | hp
   ·exact ⟨b,off,rfl,h1,h2⟩
   ·obtain ⟨b',off',e,h4,q⟩:=i2 p hp
    refine ⟨b',off',e,h4,?_⟩
    rw [Nat.testBit_or,Bool.or_eq_false_iff] at q
    exact q.1
 | .map _ :: _,_,h=>by simp [ndB] at h
theorem laidMet_ofB {P:Program} {w:World} {l:List (String × DataW Unit)} (fuel:Nat) (h:(DataW.laidRun P w fuel (l.map (·.1))).map (·.1)=some l)
  (hr:(DataW.laidRun P w fuel (l.map (·.1))).map (fun x=>ndB x.2 0 && laidRowsB P w x.2)=some true):laidMet P l w:=by
 cases hx:DataW.laidRun P w fuel (l.map (·.1)) with
 | none=>simp [hx] at h
 | some x =>
  obtain ⟨l',ps⟩:=x
  simp only [hx,Option.map_some,Option.some.injEq] at h hr
  subst h
  simp only [Bool.and_eq_true] at hr
  exact laidMet_of_run fuel hx (decide_eq_true (ndB_ok _ _ hr.1).1) hr.2
theorem laid_metS (os:Os) (args:Array Value):laidMet Tryz.prog laidS ((laidWorldS os).forCall (fun _ _=>0) ⟨#[],args,[]⟩).memory :=
 laidMet_ofB 10 (by kernel_rfl) (by kernel_rfl)
theorem laid_refS (os:Os) (args:Array Value):((laidWorldS os).forCall (fun _ _=>0) ⟨#[],args,[]⟩).variablesRefB Tryz.checked.prog=true:=by kernel_rfl
theorem laid_restS (os:Os) (args:Array Value):(((laidWorldS os).forCall (fun _ _=>0) ⟨#[],args,[]⟩).heap.toList.drop Tryz.checked.prog.globals.size).take ((begin Tryz.checked.prog (fun _ _=>0) default).world.heap.size - Tryz.checked.prog.globals.size)=(begin Tryz.checked.prog (fun _ _=>0) default).world.heap.toList.drop Tryz.checked.prog.globals.size:=by kernel_rfl
set_option maxRecDepth 100000 in
theorem tab_of {W:World} (h:laidMet Tryz.prog laidS W):TabW W :=
 ⟨Lib.tabIs_of_head (g:=3) (t:=285) (e:=267) (n:=20) (by kernel_rfl) (by kernel_rfl) (by kernel_rfl) (by kernel_rfl) (by kernel_rfl) (by kernel_rfl) (h.tail.tail),
  Lib.tabIs_of_head (g:=0) (t:=155) (e:=5) (n:=256) (by kernel_rfl) (by kernel_rfl) (by kernel_rfl) (by kernel_rfl) (by kernel_rfl) (by kernel_rfl) (h.tail.tail.tail.tail.tail)⟩
theorem tabw_of {W:World} (h:laidMetH Tryz.prog laidS W):TabW W:=by
 rw [Go.MakeChecks.laidMetH_plain _ _ _ (by kernel_rfl)] at h
 exact tab_of h
end Go.Proofs.YtmcoomlkbgiboaaGreatDoor

/- Slices of pairs, opened; rows of any kind. No condition. -/
set_option linter.all false
namespace Go.Proofs.YtmcoomlkbgiboaaGreatDoor
open Go.ChangeShapes Go.WideShapes Go.ChangeAt Go.RowKit Go.Joins

theorem spot_bare (a:Addr) (w:World) (v:Value) (h:w.cell? a=some v):a=⟨a.block,a.off,none⟩:=by
 obtain ⟨b,o,s⟩:=a
 cases s with
 | none=>rfl
 | some s =>
  exfalso
  unfold World.cell? at h
  split at h
  ·simp at h
  ·cases h
theorem add_twice_bare (b o i k:Nat):((⟨b,o,none⟩:Addr).add i).add k=⟨b,o+i+k,none⟩:=by
 unfold Addr.add
 by_cases h1:i=0 <;> by_cases h2:k=0 <;> simp [h1,h2]
/-- Each text and each list that is read has a length that a machine can tell. -/
def Light {H:Type} (t:TypeId) (d:DataW H):Prop:=∀ m∈d.weights Tryz.prog t,m≤140737488355328
theorem weightsAll_mem {H:Type} {e:TypeId} {d:DataW H} {n:Nat}:∀ {l:List (DataW H)},d∈l→n∈d.weights Tryz.prog e→n∈DataW.weightsAll Tryz.prog e l
 | [],h,_=>by cases h
 | x :: r,h,hn=>by
  simp only [DataW.weightsAll,List.mem_append]
  rcases List.mem_cons.1 h with q | q
  ·subst q; exact .inl hn
  ·exact .inr (weightsAll_mem q hn)
theorem Light.part {H:Type} {t:TypeId} {fs:Array Field} {ps:List (DataW H)} (ht:Tryz.prog.underlying t=some (.struct fs)) (h:Light t (.agg ps)) {j:Nat} {u:TypeId} {d:DataW H} (hu:(fs.toList.map (·.type))[j]? = some u) (hd:ps[j]? = some d):Light u d:=by
 intro m hm
 apply h
 simp only [DataW.weights,ht]
 exact DataW.weights_mem_each hu hd m hm
theorem Light.str {H:Type} {l:List UInt8} {t:TypeId} (h:Light t (DataW.lit (H:=H) (.string l))):l.length≤140737488355328:=h _ (by simp [DataW.weights])
section
variable {H:Type} {enc:TypeId × Value→H} {w:World} {base:Nat} {spare:Nat→Bool} {held:Bool}
theorem trod_str_l {n:Nat} {v:Value} {y:DataW H × List MemPlace} (h:DataW.trod enc Tryz.prog w base spare held n 9 [v]=some y) (hl:Light 9 y.1):∃ l:Bs,v=.string (bs l)∧l.length≤140737488355328:=by
 obtain ⟨s,h1,h2,h3⟩:=DataW.trod_string Tryz.underlying9 h
 simp at h1
 subst h2
 exact ⟨s.data.toList,h1,hl.str⟩
theorem open_rows {α:Type} [Inhabited α] {t e:TypeId} {k fuel:Nat} {v:Value} {y:DataW H × List MemPlace} (p:α→(Nat→Option Value)→Prop) (ht:Tryz.prog.underlying t=some (.slice e)) (hk:Tryz.prog.cellsOf e=k) (hk0:0<k)
  (hel:∀ n (cs:List Value) (z:DataW H × List MemPlace),cs.length=k→DataW.trod enc Tryz.prog w base spare held n e cs=some z→Light e z.1→∃ x,p x (fun j=>cs[j]?)) (hby:1≤Tryz.prog.bytesOf e)
  (h:DataW.trod enc Tryz.prog w base spare held fuel t [v]=some y) (hli:Light t y.1) :
  ∃ (xs:List α) (a:Option Addr) (c:Nat),v=.slice a xs.length c∧xs.length≤c∧xs.length≤140737488355328∧(0<xs.length→∃ g o,a=some ⟨g,o,none⟩∧g<w.heap.size∧∀ j x,xs[j]? = some x→∃ f:Nat→Option Value,p x f∧∀ i,i<k→w.cell? ⟨g,o+j * k+i,none⟩=f i)∧∀ x∈xs,∃ f,p x f:=by
 rcases Go.Deep.open_slice ht h with ⟨h0,_⟩ | ⟨a,len,cap,m,n,D,Pl,hcs,hb,hl,hm,hmm,hx,hi⟩
 ·simp at h0
  subst h0
  exact ⟨[],none,0,rfl,Nat.le_refl _,by simp,fun q=>absurd q (by simp),by simp⟩
 ·simp at hcs
  subst hcs
  rw [hk] at hi
  subst hx
  have hlen:len≤140737488355328:=by
   have h1:=hli ((((List.range len).map D).length+((List.range (m - len)).map fun j=>D (len+j)).length) * Tryz.prog.bytesOf e) (by simp [DataW.weights,ht])
   have h2:len * 1≤(((List.range len).map D).length+((List.range (m - len)).map fun j=>D (len+j)).length) * Tryz.prog.bytesOf e:=Nat.mul_le_mul (by simp) hby
   omega
  have hel2:∀ i,i<len→Light e (D i):=by
   intro i hil n hn
   apply hli
   simp only [DataW.weights,ht,List.mem_cons,List.mem_append]
   exact .inr (.inl (weightsAll_mem (List.mem_map.2 ⟨i,List.mem_range.2 hil,rfl⟩) hn))
  have each:∀ i,i<len→∃ x:α,∃ f:Nat→Option Value,p x f∧a=⟨a.block,a.off,none⟩∧∀ j,j<k→w.cell? ⟨a.block,a.off+i * k+j,none⟩=f j:=by
   have hspot:0<len→a=⟨a.block,a.off,none⟩:=by
    intro hpos
    obtain ⟨cs',hc,_⟩:=hi 0 (by rw [hmm]; split <;> omega)
    obtain ⟨_,hcl,hat⟩:=World.cells?_some hc
    have e:(a.add (0 * k)).add 0=a:=by unfold Addr.add; simp
    have h0:=hat 0 (by omega)
    rw [e,List.getElem?_eq_getElem (by omega)] at h0
    exact spot_bare a w _ h0
   intro i hil
   obtain ⟨cs',hc,htr⟩:=hi i (by rw [hmm]; split <;> omega)
   obtain ⟨_,hcl,hat⟩:=World.cells?_some hc
   obtain ⟨x,hx⟩:=hel n cs' _ hcl htr (hel2 i hil)
   have ha:=hspot (by omega)
   refine ⟨x,_,hx,ha,fun j hj=>?_⟩
   have h1:=hat j hj
   have h2:=add_twice_bare a.block a.off (i * k) j
   rw [← ha] at h2
   rw [h2] at h1; exact h1
  obtain ⟨f,hf⟩:=Go.Deep.choose_lt each
  refine ⟨(List.range len).map f,some a,cap,by simp,by simpa using hl,by simpa using hlen,fun hpos=>?_,?_⟩
  ·simp at hpos
   obtain ⟨f0,_,ha,hc0⟩:=hf 0 hpos
   refine ⟨a.block,a.off,by rw [← ha],?_,fun j x hj=>?_⟩
   ·obtain ⟨cs',hc,_⟩:=hi 0 (by rw [hmm]; split <;> omega)
    obtain ⟨_,hcl,hat⟩:=World.cells?_some hc
    have e:(a.add (0 * k)).add 0=a:=by unfold Addr.add; simp
    have h0:=hat 0 (by omega)
    rw [e,List.getElem?_eq_getElem (by omega)] at h0
    exact World.block_lt_of_cell? w (a:=a) h0
   ·rw [List.getElem?_map,Option.map_eq_some_iff] at hj
    obtain ⟨i,hi1,rfl⟩:=hj
    obtain ⟨hi2,hi3⟩:=List.getElem?_eq_some_iff.1 hi1
    simp at hi2 hi3
    subst hi3
    obtain ⟨g,hg,_,hcell⟩:=hf j hi2
    exact ⟨g,hg,hcell⟩
  ·intro x hx
   obtain ⟨i,hi1,rfl⟩:=List.mem_map.1 hx
   obtain ⟨g,hg,_⟩:=hf i (by simpa using hi1)
   exact ⟨g,hg⟩
theorem Tryz.cellsPair:Tryz.prog.cellsOf 62=2:=by kernel_rfl
theorem Tryz.cellsStr:Tryz.prog.cellsOf 9=1:=by kernel_rfl
set_option maxRecDepth 100000 in
theorem cell_pairs {fuel:Nat} {v:Value} {y:DataW H × List MemPlace} (h:DataW.trod enc Tryz.prog w base spare held fuel 22 [v]=some y) (hli:Light 22 y.1):∃ ps:List Pr,Prs w v ps∧ps.length≤140737488355328∧∀ q∈ps,q.1.length≤140737488355328∧q.2.length≤140737488355328:=by
 obtain ⟨ps,a,c,rfl,h1,h2,h3,h4⟩:=open_rows (α:=Pr) (fun q f=>f 0=some (.string (bs q.1))∧f 1=some (.string (bs q.2))∧q.1.length≤140737488355328∧q.2.length≤140737488355328) Tryz.underlying22 Tryz.cellsPair (by omega) (by
  intro n cs z hl ht hz
  obtain ⟨y0,y1,n',hx,_,h0,h1⟩:=Go.ChangeShapes.trod_struct2 Tryz.underlying62 ht
  match cs,hl with
  | [v0,v1],_ =>
   simp only [Tryz.cellsStr,List.drop_succ_cons,List.drop_zero,List.take_succ_cons,List.take_zero] at h0 h1
   obtain ⟨q0,rfl,f0⟩:=trod_str_l h0 (Light.part Tryz.underlying62 (by subst hx; exact hz) (j:=0) rfl rfl)
   obtain ⟨q1,rfl,f1⟩:=trod_str_l h1 (Light.part Tryz.underlying62 (by subst hx; exact hz) (j:=1) rfl rfl)
   exact ⟨(q0,q1),rfl,rfl,f0,f1⟩) (of_decide_eq_true (by kernel_rfl)) h hli
 refine ⟨ps,⟨a,c,rfl,h1,fun q=>?_⟩,h2,fun q hq=>?_⟩
 ·obtain ⟨g,o,ha,hg,hc⟩:=h3 q
  refine ⟨g,o,ha,hg,fun j x hx=>?_⟩
  obtain ⟨f,⟨p0,p1,_⟩,hcell⟩:=hc j x hx
  exact ⟨(hcell 0 (by omega)).trans p0,(hcell 1 (by omega)).trans p1⟩
 ·obtain ⟨f,_,_,p⟩:=h4 q hq
  exact p
end
end Go.Proofs.YtmcoomlkbgiboaaGreatDoor

/- Slices of texts, opened. No condition. -/
set_option linter.all false
namespace Go.Proofs.YtmcoomlkbgiboaaGreatDoor
open Go.ChangeShapes Go.WideShapes Go.ChangeAt Go.RowKit Go.Joins

section
variable {H:Type} {enc:TypeId × Value→H} {w:World} {base:Nat} {spare:Nat→Bool} {held:Bool}
set_option maxRecDepth 100000 in
theorem cell_strs {fuel:Nat} {v:Value} {y:DataW H × List MemPlace} (h:DataW.trod enc Tryz.prog w base spare held fuel 29 [v]=some y) (hli:Light 29 y.1):∃ xs:List Bs,Strs w v xs∧xs.length≤140737488355328∧∀ x∈xs,x.length≤140737488355328:=by
 obtain ⟨xs,a,c,rfl,h1,h2,h3,h4⟩:=open_rows (α:=Bs) (fun q f=>f 0=some (.string (bs q))∧q.length≤140737488355328) Tryz.underlying29 Tryz.cellsStr (by omega) (by
  intro n cs z hl ht hz
  match cs,hl with
  | [v0],_ =>
   obtain ⟨q0,rfl,f0⟩:=trod_str_l ht hz
   exact ⟨q0,rfl,f0⟩) (of_decide_eq_true (by kernel_rfl)) h hli
 refine ⟨xs,⟨a,c,rfl,h1,fun q=>?_⟩,h2,fun q hq=>?_⟩
 ·obtain ⟨g,o,ha,hg,hc⟩:=h3 q
  refine ⟨g,o,ha,hg,fun j x hx=>?_⟩
  obtain ⟨f,⟨p0,_⟩,hcell⟩:=hc j x hx
  have:=(hcell 0 (by omega)).trans p0
  simpa using this
 ·obtain ⟨f,_,p⟩:=h4 q hq
  exact p
end
end Go.Proofs.YtmcoomlkbgiboaaGreatDoor

/- An argument that is a document, opened. No condition. -/
set_option linter.all false
namespace Go.Proofs.YtmcoomlkbgiboaaGreatDoor
open Go.ChangeShapes Go.WideShapes Go.ChangeAt Go.RowKit Go.Joins

instance inhCitD:Inhabited Cit:=⟨⟨[],[],[],false⟩⟩
instance inhInlD:Inhabited Inl:=⟨.mk 0 [] [] [] [] [] [] [] [] []⟩
instance inhBloD:Inhabited Blo:=⟨.mk 0 0 [] [] [] [] [] [] [] [] []⟩
section
variable {H:Type} {enc:TypeId × Value→H} {w:World} {base:Nat} {spare:Nat→Bool} {held:Bool}
/-- A slice opened, its elements read with one step less. -/
theorem open_rowsF {α:Type} [Inhabited α] {t e:TypeId} {k m:Nat} {v:Value} {y:DataW H × List MemPlace} (p:α→(Nat→Option Value)→Prop) (ht:Tryz.prog.underlying t=some (.slice e)) (hk:Tryz.prog.cellsOf e=k) (hk0:0<k)
  (hel:∀ (cs:List Value) (z:DataW H × List MemPlace),cs.length=k→DataW.trod enc Tryz.prog w base spare held m e cs=some z→Light e z.1→∃ x,p x (fun j=>cs[j]?)) (hby:1≤Tryz.prog.bytesOf e)
  (h:DataW.trod enc Tryz.prog w base spare held (m+1) t [v]=some y) (hli:Light t y.1) :
  ∃ (xs:List α) (a:Option Addr) (c:Nat),v=.slice a xs.length c∧xs.length≤c∧xs.length≤140737488355328∧(0<xs.length→∃ g o,a=some ⟨g,o,none⟩∧g<w.heap.size∧∀ j x,xs[j]? = some x→∃ f:Nat→Option Value,p x f∧∀ i,i<k→w.cell? ⟨g,o+j * k+i,none⟩=f i)∧∀ x∈xs,∃ f,p x f:=by
 rcases DataW.trod_slice ht h with ⟨h0,_⟩ | ⟨a,len,cap,elems,rest,n,hn,hcs,rfl,hb,hl,hm,hlen,hi,_,_⟩
 ·simp at h0
  subst h0
  exact ⟨[],none,0,rfl,Nat.le_refl _,by simp,fun q=>absurd q (by simp),by simp⟩
 ·simp at hcs
  subst hcs
  obtain rfl:n=m:=by omega
  rw [hk] at hi
  have hlen:len≤140737488355328:=by
   have h1:=hli (((elems.map (·.1)).length+(rest.map (·.1)).length) * Tryz.prog.bytesOf e) (by simp [DataW.weights,ht])
   have h2:len * 1≤((elems.map (·.1)).length+(rest.map (·.1)).length) * Tryz.prog.bytesOf e:=Nat.mul_le_mul (by rw [List.length_map]; omega) hby
   omega
  have hread:∀ i,i<len→∃ cs' z,w.cells? base (a.add (i * k)) k=some cs'∧DataW.trod enc Tryz.prog w base spare held n e cs'=some z∧Light e z.1:=by
   intro i hil
   have h1:=hi i hil
   rw [List.getElem?_eq_getElem (by omega)] at h1
   obtain ⟨cs',h2,h3⟩:=Option.bind_eq_some_iff.1 h1
   refine ⟨cs',_,h2,h3,fun n hn=>?_⟩
   apply hli
   simp only [DataW.weights,ht,List.mem_cons,List.mem_append]
   exact .inr (.inl (weightsAll_mem (List.mem_map.2 ⟨_,List.getElem_mem _,rfl⟩) hn))
  have each:∀ i,i<len→∃ x:α,∃ f:Nat→Option Value,p x f∧a=⟨a.block,a.off,none⟩∧∀ j,j<k→w.cell? ⟨a.block,a.off+i * k+j,none⟩=f j:=by
   have hspot:0<len→a=⟨a.block,a.off,none⟩:=by
    intro hpos
    obtain ⟨cs',_,hc,_⟩:=hread 0 hpos
    obtain ⟨_,hcl,hat⟩:=World.cells?_some hc
    have e:(a.add (0 * k)).add 0=a:=by unfold Addr.add; simp
    have h0:=hat 0 (by omega)
    rw [e,List.getElem?_eq_getElem (by omega)] at h0
    exact spot_bare a w _ h0
   intro i hil
   obtain ⟨cs',z,hc,htr,hz⟩:=hread i hil
   obtain ⟨_,hcl,hat⟩:=World.cells?_some hc
   obtain ⟨x,hx⟩:=hel cs' z hcl htr hz
   have ha:=hspot (by omega)
   refine ⟨x,_,hx,ha,fun j hj=>?_⟩
   have h1:=hat j hj
   have h2:=add_twice_bare a.block a.off (i * k) j
   rw [← ha] at h2
   rw [h2] at h1; exact h1
  obtain ⟨f,hf⟩:=Go.Deep.choose_lt each
  refine ⟨(List.range len).map f,some a,cap,by simp,by simpa using hl,by simpa using hlen,fun hpos=>?_,?_⟩
  ·simp at hpos
   obtain ⟨f0,_,ha,hc0⟩:=hf 0 hpos
   refine ⟨a.block,a.off,by rw [← ha],?_,fun j x hj=>?_⟩
   ·obtain ⟨cs',_,hc,_⟩:=hread 0 hpos
    obtain ⟨_,hcl,hat⟩:=World.cells?_some hc
    have e:(a.add (0 * k)).add 0=a:=by unfold Addr.add; simp
    have h0:=hat 0 (by omega)
    rw [e,List.getElem?_eq_getElem (by omega)] at h0
    exact World.block_lt_of_cell? w (a:=a) h0
   ·rw [List.getElem?_map,Option.map_eq_some_iff] at hj
    obtain ⟨i,hi1,rfl⟩:=hj
    obtain ⟨hi2,hi3⟩:=List.getElem?_eq_some_iff.1 hi1
    simp at hi2 hi3
    subst hi3
    obtain ⟨g,hg,_,hcell⟩:=hf j hi2
    exact ⟨g,hg,hcell⟩
  ·intro x hx
   obtain ⟨i,hi1,rfl⟩:=List.mem_map.1 hx
   obtain ⟨g,hg,_⟩:=hf i (by simpa using hi1)
   exact ⟨g,hg⟩
theorem Tryz.cellsCited:Tryz.prog.cellsOf 68=4:=by kernel_rfl
theorem Tryz.cellsInl:Tryz.prog.cellsOf 71=10:=by kernel_rfl
theorem Tryz.cellsBlo:Tryz.prog.cellsOf 59=11:=by kernel_rfl
theorem Tryz.cellsAtt:Tryz.prog.cellsOf 56=3:=by kernel_rfl
theorem Tryz.cellsBool:Tryz.prog.cellsOf 4=1:=by kernel_rfl
theorem Tryz.cellsInt:Tryz.prog.cellsOf 3=1:=by kernel_rfl
theorem Tryz.cellsLS:Tryz.prog.cellsOf 29=1:=by kernel_rfl
theorem Tryz.cellsLP:Tryz.prog.cellsOf 22=1:=by kernel_rfl
theorem Tryz.cellsLC:Tryz.prog.cellsOf 69=1:=by kernel_rfl
theorem Tryz.cellsLI:Tryz.prog.cellsOf 57=1:=by kernel_rfl
theorem Tryz.cellsLB:Tryz.prog.cellsOf 23=1:=by kernel_rfl
theorem Tryz.cellsDoc:Tryz.prog.cellsOf 25=2:=by kernel_rfl
def FitC4 (c:Cit):Prop:=c.key.length≤140737488355328∧c.pre.length≤140737488355328∧c.suf.length≤140737488355328
set_option maxRecDepth 100000 in
theorem cell_cits {fuel:Nat} {v:Value} {y:DataW H × List MemPlace} (h:DataW.trod enc Tryz.prog w base spare held fuel 69 [v]=some y) (hli:Light 69 y.1):∃ xs:List Cit,Cits (fun g=>g<w.heap.size) w v xs∧xs.length≤140737488355328∧∀ x∈xs,FitC4 x:=by
 obtain ⟨xs,a,c,rfl,h1,h2,h3,h4⟩:=open_rows (α:=Cit) (fun q f=>(f 0=some (.string (bs q.key))∧f 1=some (.string (bs q.pre))∧f 2=some (.string (bs q.suf))∧f 3=some (.bool q.bare))∧FitC4 q) Tryz.underlying69 Tryz.cellsCited (by omega) (by
  intro n cs z hl ht hz
  obtain ⟨y0,y1,y2,y3,n',hx,_,h0,h1,h2,h3⟩:=trod_struct4 Tryz.underlying68 ht
  match cs,hl with
  | [v0,v1,v2,v3],_ =>
   simp only [Tryz.cellsStr,Tryz.cellsBool,List.drop_succ_cons,List.drop_zero,List.take_succ_cons,List.take_zero] at h0 h1 h2 h3
   obtain ⟨q0,rfl,f0⟩:=trod_str_l h0 (Light.part Tryz.underlying68 (by subst hx; exact hz) (j:=0) rfl rfl)
   obtain ⟨q1,rfl,f1⟩:=trod_str_l h1 (Light.part Tryz.underlying68 (by subst hx; exact hz) (j:=1) rfl rfl)
   obtain ⟨q2,rfl,f2⟩:=trod_str_l h2 (Light.part Tryz.underlying68 (by subst hx; exact hz) (j:=2) rfl rfl)
   obtain ⟨b,hb,-⟩:=DataW.trod_bool Tryz.underlying4 h3
   obtain rfl:v3=.bool b:=by simpa using hb
   exact ⟨⟨q0,q1,q2,b⟩,⟨rfl,rfl,rfl,rfl⟩,f0,f1,f2⟩) (of_decide_eq_true (by kernel_rfl)) h hli
 refine ⟨xs,⟨a,c,rfl,h1,fun q=>?_⟩,h2,fun q hq=>?_⟩
 ·obtain ⟨g,o,ha,hg,hc⟩:=h3 q
  refine ⟨g,o,ha,hg,hg,fun j x hx=>?_⟩
  obtain ⟨f,⟨⟨p0,p1,p2,p3⟩,_⟩,hcell⟩:=hc j x hx
  refine ⟨[.string (bs x.key),.string (bs x.pre),.string (bs x.suf),.bool x.bare],rfl,fun i u hu=>?_,rfl⟩
  have hi:i<4:=by have:=(List.getElem?_eq_some_iff.1 hu).1; simpa using this
  rw [hcell i hi]
  match i,hi with
  | 0,_=>rw [p0]; exact hu
  | 1,_=>rw [p1]; exact hu
  | 2,_=>rw [p2]; exact hu
  | 3,_=>rw [p3]; exact hu
 ·obtain ⟨f,_,p⟩:=h4 q hq
  exact p
theorem trod_struct8 {t:TypeId} {f0 f1 f2 f3 f4 f5 f6 f7:Field} {fuel:Nat} {cs:List Value} {x:DataW H × List MemPlace} (ht:Tryz.prog.underlying t=some (.struct #[f0,f1,f2,f3,f4,f5,f6,f7])) (h:DataW.trod enc Tryz.prog w base spare held fuel t cs=some x) :
  ∃ y0 y1 y2 y3 y4 y5 y6 y7 n,fuel=n+1∧x.1=.agg [y0.1,y1.1,y2.1,y3.1,y4.1,y5.1,y6.1,y7.1]∧DataW.trod enc Tryz.prog w base spare held n f0.type ((cs.drop f0.offset).take (Tryz.prog.cellsOf f0.type))=some y0∧DataW.trod enc Tryz.prog w base spare held n f1.type ((cs.drop f1.offset).take (Tryz.prog.cellsOf f1.type))=some y1∧DataW.trod enc Tryz.prog w base spare held n f2.type ((cs.drop f2.offset).take (Tryz.prog.cellsOf f2.type))=some y2 ∧
   DataW.trod enc Tryz.prog w base spare held n f3.type ((cs.drop f3.offset).take (Tryz.prog.cellsOf f3.type))=some y3∧DataW.trod enc Tryz.prog w base spare held n f4.type ((cs.drop f4.offset).take (Tryz.prog.cellsOf f4.type))=some y4∧DataW.trod enc Tryz.prog w base spare held n f5.type ((cs.drop f5.offset).take (Tryz.prog.cellsOf f5.type))=some y5∧DataW.trod enc Tryz.prog w base spare held n f6.type ((cs.drop f6.offset).take (Tryz.prog.cellsOf f6.type))=some y6∧DataW.trod enc Tryz.prog w base spare held n f7.type ((cs.drop f7.offset).take (Tryz.prog.cellsOf f7.type))=some y7:=by
 obtain ⟨xs,n,hn,rfl,hl,hlen,hf⟩:=DataW.trod_struct ht h
 match xs,hlen with
 | [y0,y1,y2,y3,y4,y5,y6,y7],_=>exact ⟨y0,y1,y2,y3,y4,y5,y6,y7,n,hn,by simp,by simpa using hf 0 f0 rfl,by simpa using hf 1 f1 rfl,by simpa using hf 2 f2 rfl,by simpa using hf 3 f3 rfl,by simpa using hf 4 f4 rfl,by simpa using hf 5 f5 rfl,by simpa using hf 6 f6 rfl,by simpa using hf 7 f7 rfl⟩
theorem trod_struct9 {t:TypeId} {f0 f1 f2 f3 f4 f5 f6 f7 f8:Field} {fuel:Nat} {cs:List Value} {x:DataW H × List MemPlace} (ht:Tryz.prog.underlying t=some (.struct #[f0,f1,f2,f3,f4,f5,f6,f7,f8])) (h:DataW.trod enc Tryz.prog w base spare held fuel t cs=some x) :
  ∃ y0 y1 y2 y3 y4 y5 y6 y7 y8 n,fuel=n+1∧x.1=.agg [y0.1,y1.1,y2.1,y3.1,y4.1,y5.1,y6.1,y7.1,y8.1]∧DataW.trod enc Tryz.prog w base spare held n f0.type ((cs.drop f0.offset).take (Tryz.prog.cellsOf f0.type))=some y0∧DataW.trod enc Tryz.prog w base spare held n f1.type ((cs.drop f1.offset).take (Tryz.prog.cellsOf f1.type))=some y1∧DataW.trod enc Tryz.prog w base spare held n f2.type ((cs.drop f2.offset).take (Tryz.prog.cellsOf f2.type))=some y2 ∧
   DataW.trod enc Tryz.prog w base spare held n f3.type ((cs.drop f3.offset).take (Tryz.prog.cellsOf f3.type))=some y3∧DataW.trod enc Tryz.prog w base spare held n f4.type ((cs.drop f4.offset).take (Tryz.prog.cellsOf f4.type))=some y4∧DataW.trod enc Tryz.prog w base spare held n f5.type ((cs.drop f5.offset).take (Tryz.prog.cellsOf f5.type))=some y5∧DataW.trod enc Tryz.prog w base spare held n f6.type ((cs.drop f6.offset).take (Tryz.prog.cellsOf f6.type))=some y6∧DataW.trod enc Tryz.prog w base spare held n f7.type ((cs.drop f7.offset).take (Tryz.prog.cellsOf f7.type))=some y7∧DataW.trod enc Tryz.prog w base spare held n f8.type ((cs.drop f8.offset).take (Tryz.prog.cellsOf f8.type))=some y8:=by
 obtain ⟨xs,n,hn,rfl,hl,hlen,hf⟩:=DataW.trod_struct ht h
 match xs,hlen with
 | [y0,y1,y2,y3,y4,y5,y6,y7,y8],_=>exact ⟨y0,y1,y2,y3,y4,y5,y6,y7,y8,n,hn,by simp,by simpa using hf 0 f0 rfl,by simpa using hf 1 f1 rfl,by simpa using hf 2 f2 rfl,by simpa using hf 3 f3 rfl,by simpa using hf 4 f4 rfl,by simpa using hf 5 f5 rfl,by simpa using hf 6 f6 rfl,by simpa using hf 7 f7 rfl,by simpa using hf 8 f8 rfl⟩
set_option maxRecDepth 100000 in
theorem cell_att {fuel:Nat} {cs:List Value} {y:DataW H × List MemPlace} (hl:cs.length=3) (h:DataW.trod enc Tryz.prog w base spare held fuel 56 cs=some y) (hli:Light 56 y.1) :
  ∃ (id:Bs) (cls:List Bs) (prs:List Pr) (vC vP:Value),cs=[.string (bs id),vC,vP]∧Strs w vC cls∧Prs w vP prs∧FitA id cls prs:=by
 obtain ⟨y0,y1,y2,n',hx,_,h0,h1,h2⟩:=Go.Deep.trod_struct3 Tryz.underlying56 h
 match cs,hl with
 | [v0,v1,v2],_ =>
  simp only [Tryz.cellsStr,Tryz.cellsLS,Tryz.cellsLP,List.drop_succ_cons,List.drop_zero,List.take_succ_cons,List.take_zero] at h0 h1 h2
  obtain ⟨q0,rfl,f0⟩:=trod_str_l h0 (Light.part Tryz.underlying56 (by subst hx; exact hli) (j:=0) rfl rfl)
  obtain ⟨q1,p1,l1,f1⟩:=cell_strs h1 (Light.part Tryz.underlying56 (by subst hx; exact hli) (j:=1) rfl rfl)
  obtain ⟨q2,p2,l2,f2⟩:=cell_pairs h2 (Light.part Tryz.underlying56 (by subst hx; exact hli) (j:=2) rfl rfl)
  exact ⟨q0,q1,q2,v1,v2,rfl,p1,p2,f0,l1,l2,f1,f2⟩
set_option maxRecDepth 100000 in
set_option maxHeartbeats 1600000 in
theorem cell_inls:∀ (fuel:Nat) (v:Value) (y:DataW H × List MemPlace),DataW.trod enc Tryz.prog w base spare held fuel 57 [v]=some y→Light 57 y.1→∃ xs:List Inl,Lns (fun g=>g<w.heap.size) fuel w v xs∧xs.length≤140737488355328∧∀ x∈deepL xs,FitX x:=by
 intro fuel
 induction fuel using Nat.strongRecOn with
 | _ fuel ih =>
  intro v y h hli
  cases fuel with
  | zero=>simp [DataW.trod] at h
  | succ m =>
   obtain ⟨xs,a,c,rfl,h1,h2,h3,h4⟩:=open_rowsF (α:=Inl) (fun x f=>(∃ vC vP vA vT vK,(∀ i,i<10→f i=(inlC x vC vP vA vT vK)[i]?)∧Strs w vC x.cls∧Prs w vP x.prs∧Strs w vA x.args∧Cits (fun g=>g<w.heap.size) w vT x.cits∧Lns (fun g=>g<w.heap.size) m w vK x.kids)∧FitX x∧∀ y∈deepL x.kids,FitX y) Tryz.underlying57 Tryz.cellsInl (by omega) (by
    intro cs z hl ht hz
    obtain ⟨y0,y1,y2,y3,y4,y5,y6,y7,n',hn,hx,h0,h1,h2,h3,h4,h5,h6,h7⟩:=trod_struct8 Tryz.underlying71 ht
    match cs,hl with
    | [v0,v1,v2,v3,v4,v5,v6,v7,v8,v9],_ =>
     simp only [Tryz.cellsStr,Tryz.cellsInt,Tryz.cellsAtt,Tryz.cellsLS,Tryz.cellsLC,Tryz.cellsLI,List.drop_succ_cons,List.drop_zero,List.take_succ_cons,List.take_zero] at h0 h1 h2 h3 h4 h5 h6 h7
     rw [hx] at hz
     obtain ⟨k,hk,-,-⟩:=DataW.trod_int Tryz.underlying3 h0
     obtain rfl:v0=.int .i64 k:=by simpa using hk
     obtain ⟨q1,rfl,f1⟩:=trod_str_l h1 (Light.part Tryz.underlying71 hz (j:=1) rfl rfl)
     obtain ⟨q2,rfl,f2⟩:=trod_str_l h2 (Light.part Tryz.underlying71 hz (j:=2) rfl rfl)
     obtain ⟨q3,rfl,f3⟩:=trod_str_l h3 (Light.part Tryz.underlying71 hz (j:=3) rfl rfl)
     obtain ⟨id,cls,prs,vC,vP,he,p1,p2,f4⟩:=cell_att rfl h4 (Light.part Tryz.underlying71 hz (j:=4) rfl rfl)
     simp only [List.cons.injEq,and_true] at he
     obtain ⟨rfl,rfl,rfl⟩:=he
     obtain ⟨ag,p3,l5,f5⟩:=cell_strs h5 (Light.part Tryz.underlying71 hz (j:=5) rfl rfl)
     obtain ⟨ct,p4,l6,f6⟩:=cell_cits h6 (Light.part Tryz.underlying71 hz (j:=6) rfl rfl)
     obtain ⟨kd,p5,l7,f7⟩:=ih n' (by omega) _ _ h7 (Light.part Tryz.underlying71 hz (j:=7) rfl rfl)
     refine ⟨.mk k q1 q2 q3 id cls prs ag ct kd,⟨v5,v6,v7,v8,v9,fun i _=>rfl,p1,p2,p3,p4,p5.ups (by omega)⟩,?_,f7⟩
     exact ⟨⟨f1,f2,f3⟩,f4,⟨l5,l6,l7⟩,f5,f6⟩) (of_decide_eq_true (by kernel_rfl)) h hli
   refine ⟨xs,⟨a,c,rfl,h1,fun q=>?_⟩,h2,?_⟩
   ·obtain ⟨g,o,ha,hg,hc⟩:=h3 q
    refine ⟨g,o,ha,hg,hg,fun j x hx=>?_⟩
    obtain ⟨f,⟨⟨vC,vP,vA,vT,vK,p0,p1,p2,p3,p4,p5⟩,_⟩,hcell⟩:=hc j x hx
    refine ⟨inlC x vC vP vA vT vK,rfl,fun i u hu=>?_,vC,vP,vA,vT,vK,rfl,⟨p1,p1.ltB⟩,⟨p2,p2.ltB⟩,⟨p3,p3.ltB⟩,p4,p5⟩
    have hi:i<10:=by have:=(List.getElem?_eq_some_iff.1 hu).1; simpa [inlC] using this
    rw [hcell i hi,p0 i hi]; exact hu
   ·have h5:∀ x∈xs,∀ y∈deep1 x,FitX y:=fun x hx y hy=>by
     obtain ⟨f,_,p,q⟩:=h4 x hx
     rw [deep1_eq] at hy
     rcases List.mem_cons.1 hy with rfl | hy
     ·exact p
     ·exact q y hy
    clear h1 h2 h3 h4 h hli
    intro y hy
    induction xs with
    | nil=>exact (List.not_mem_nil hy).elim
    | cons x xs ih2 =>
     rcases List.mem_append.1 (show y∈deep1 x ++ deepL xs from hy) with q | q
     ·exact h5 x (List.mem_cons_self ..) y q
     ·exact ih2 (fun z hz=>h5 z (List.mem_cons_of_mem _ hz)) q
set_option maxRecDepth 100000 in
set_option maxHeartbeats 1600000 in
theorem cell_blos:∀ (fuel:Nat) (v:Value) (y:DataW H × List MemPlace),DataW.trod enc Tryz.prog w base spare held fuel 23 [v]=some y→Light 23 y.1→∃ xs:List Blo,∀ N,fuel≤N→Bls (fun g=>g<w.heap.size) N fuel w v xs∧xs.length≤140737488355328∧∀ x∈listL xs,FitK x:=by
 intro fuel
 induction fuel using Nat.strongRecOn with
 | _ fuel ih =>
  intro v y h hli
  cases fuel with
  | zero=>simp [DataW.trod] at h
  | succ m =>
   obtain ⟨xs,a,c,rfl,h1,h2,h3,h4⟩:=open_rowsF (α:=Blo) (fun x f=>(∃ vC vP vL vK,(∀ i,i<11→f i=(bloC x vC vP vL vK)[i]?)∧Strs w vC x.cls∧Prs w vP x.prs∧Lns (fun g=>g<w.heap.size) (m+1) w vL x.line∧∀ N,m+1≤N→Bls (fun g=>g<w.heap.size) N m w vK x.kids)∧FitK x∧∀ y∈listL x.kids,FitK y) Tryz.underlying23 Tryz.cellsBlo (by omega) (by
    intro cs z hl ht hz
    obtain ⟨y0,y1,y2,y3,y4,y5,y6,y7,y8,n',hn,hx,h0,h1,h2,h3,h4,h5,h6,h7,h8⟩:=trod_struct9 Tryz.underlying59 ht
    match cs,hl with
    | [v0,v1,v2,v3,v4,v5,v6,v7,v8,v9,v10],_ =>
     simp only [Tryz.cellsStr,Tryz.cellsInt,Tryz.cellsAtt,Tryz.cellsLI,Tryz.cellsLB,List.drop_succ_cons,List.drop_zero,List.take_succ_cons,List.take_zero] at h0 h1 h2 h3 h4 h5 h6 h7 h8
     rw [hx] at hz
     obtain ⟨k,hk,-,-⟩:=DataW.trod_int Tryz.underlying3 h0
     obtain rfl:v0=.int .i64 k:=by simpa using hk
     obtain ⟨k1,hk1,-,-⟩:=DataW.trod_int Tryz.underlying3 h1
     obtain rfl:v1=.int .i64 k1:=by simpa using hk1
     obtain ⟨q1,rfl,f1⟩:=trod_str_l h2 (Light.part Tryz.underlying59 hz (j:=2) rfl rfl)
     obtain ⟨q2,rfl,f2⟩:=trod_str_l h3 (Light.part Tryz.underlying59 hz (j:=3) rfl rfl)
     obtain ⟨q3,rfl,f3⟩:=trod_str_l h4 (Light.part Tryz.underlying59 hz (j:=4) rfl rfl)
     obtain ⟨q4,rfl,f4⟩:=trod_str_l h5 (Light.part Tryz.underlying59 hz (j:=5) rfl rfl)
     obtain ⟨id,cls,prs,vC,vP,he,p1,p2,f5⟩:=cell_att rfl h6 (Light.part Tryz.underlying59 hz (j:=6) rfl rfl)
     simp only [List.cons.injEq,and_true] at he
     obtain ⟨rfl,rfl,rfl⟩:=he
     obtain ⟨ln,p3,l6,f6⟩:=cell_inls _ _ _ h7 (Light.part Tryz.underlying59 hz (j:=7) rfl rfl)
     obtain ⟨kd,p4⟩:=ih n' (by omega) _ _ h8 (Light.part Tryz.underlying59 hz (j:=8) rfl rfl)
     obtain ⟨-,l7,f7⟩:=p4 n' (Nat.le_refl _)
     refine ⟨.mk k k1 q1 q2 q3 q4 id cls prs ln kd,⟨v7,v8,v9,v10,fun i _=>rfl,p1,p2,p3.ups (by omega),fun N hN=>(p4 N (by omega)).1.ups (by omega)⟩,?_,f7⟩
     exact ⟨⟨f1,f2,f3,f4⟩,f5,l6,l7,f6⟩) (of_decide_eq_true (by kernel_rfl)) h hli
   refine ⟨xs,fun N hN=>⟨⟨a,c,rfl,h1,fun q=>?_⟩,h2,?_⟩⟩
   ·obtain ⟨g,o,ha,hg,hc⟩:=h3 q
    refine ⟨g,o,ha,hg,hg,fun j x hx=>?_⟩
    obtain ⟨f,⟨⟨vC,vP,vL,vK,p0,p1,p2,p3,p4⟩,_⟩,hcell⟩:=hc j x hx
    refine ⟨bloC x vC vP vL vK,rfl,fun i u hu=>?_,vC,vP,vL,vK,rfl,⟨p1,p1.ltB⟩,⟨p2,p2.ltB⟩,p3.ups hN,p4 N hN⟩
    have hi:i<11:=by have:=(List.getElem?_eq_some_iff.1 hu).1; simpa [bloC] using this
    rw [hcell i hi,p0 i hi]; exact hu
   ·have h5:∀ x∈xs,∀ y∈list1 x,FitK y:=fun x hx y hy=>by
     obtain ⟨f,_,p,q⟩:=h4 x hx
     rw [list1_eq] at hy
     rcases List.mem_cons.1 hy with rfl | hy
     ·exact p
     ·exact q y hy
    clear h1 h2 h3 h4 h hli
    intro y hy
    induction xs with
    | nil=>exact (List.not_mem_nil hy).elim
    | cons x xs ih2 =>
     rcases List.mem_append.1 (show y∈list1 x ++ listL xs from hy) with q | q
     ·exact h5 x (List.mem_cons_self ..) y q
     ·exact ih2 (fun z hz=>h5 z (List.mem_cons_of_mem _ hz)) q
set_option maxRecDepth 100000 in
theorem open_doc {r:Reach} {b0:Nat} {v:Value} {d:DataW H} {p:List MemPlace} (hv:Value.okWide Tryz.prog w r b0 25 v) (h:DataW.Trod enc Tryz.prog w base spare held 25 v d p) (hli:Light 25 d) :
  ∃ (ms:List Pr) (xs:List Blo) (vM vB:Value) (N n:Nat),v=.agg #[vM,vB]∧2≤N∧Prs w vM ms∧Bls (fun g=>g<w.heap.size) N n w vB xs∧FitD0 ms xs:=by
 obtain ⟨v0,v1,y0,y1,n,rfl,rfl,_,h0,h1⟩:=open_agg2 Tryz.underlying25 (by kernel_rfl) Tryz.cellsDoc hv h
 obtain ⟨ms,hM,lM,fM⟩:=cell_pairs h0 (Light.part Tryz.underlying25 hli (j:=0) rfl rfl)
 obtain ⟨xs,hx⟩:=cell_blos n _ _ h1 (Light.part Tryz.underlying25 hli (j:=1) rfl rfl)
 obtain ⟨hB,lB,fB⟩:=hx (n+2) (by omega)
 exact ⟨ms,xs,v0,v1,n+2,n,rfl,by omega,hM,hB,⟨lM,fM⟩,lB,fB⟩
end
end Go.Proofs.YtmcoomlkbgiboaaGreatDoor
