/- Slices of persons and sources, opened. No condition. -/
import Derived.Test.YtmcoomlkbgiboaaGreatDoorU09
import Derived.Test.YtmcoomlkbgiboaaGreatDoorU12
import Derived.Test.YtmcoomlkbgiboaaGreatDoorU08
import Derived.Test.YtmcoomlkbgiboaaGreatDoorU06
import Derived.Test.YtmcoomlkbgiboaaGreatDoorU05

set_option linter.all false
namespace Go.Proofs.YtmcoomlkbgiboaaGreatDoor
open Go.ChangeShapes Go.WideShapes Go.ChangeAt Go.RowKit Go.Joins

instance:Inhabited SrcT:=⟨⟨[],[],[],[],[]⟩⟩
def Fit47 (q:P4):Prop:=q.1.length≤140737488355328∧q.2.1.length≤140737488355328∧q.2.2.1.length≤140737488355328∧q.2.2.2.length≤140737488355328
section
variable {H:Type} {enc:TypeId × Value→H} {w:World} {base:Nat} {spare:Nat→Bool} {held:Bool}
theorem Tryz.cellsSrc:Tryz.prog.cellsOf 50=5:=by kernel_rfl
theorem Tryz.cellsLp:Tryz.prog.cellsOf 48=1:=by kernel_rfl
theorem Tryz.cellsLf:Tryz.prog.cellsOf 22=1:=by kernel_rfl
theorem trod_struct5 {t:TypeId} {f0 f1 f2 f3 f4:Field} {fuel:Nat} {cs:List Value} {x:DataW H × List MemPlace} (ht:Tryz.prog.underlying t=some (.struct #[f0,f1,f2,f3,f4])) (h:DataW.trod enc Tryz.prog w base spare held fuel t cs=some x) :
  ∃ y0 y1 y2 y3 y4 n,x.1=.agg [y0.1,y1.1,y2.1,y3.1,y4.1]∧DataW.trod enc Tryz.prog w base spare held n f0.type ((cs.drop f0.offset).take (Tryz.prog.cellsOf f0.type))=some y0∧DataW.trod enc Tryz.prog w base spare held n f1.type ((cs.drop f1.offset).take (Tryz.prog.cellsOf f1.type))=some y1∧DataW.trod enc Tryz.prog w base spare held n f2.type ((cs.drop f2.offset).take (Tryz.prog.cellsOf f2.type))=some y2 ∧
   DataW.trod enc Tryz.prog w base spare held n f3.type ((cs.drop f3.offset).take (Tryz.prog.cellsOf f3.type))=some y3∧DataW.trod enc Tryz.prog w base spare held n f4.type ((cs.drop f4.offset).take (Tryz.prog.cellsOf f4.type))=some y4:=by
 obtain ⟨xs,n,_,rfl,hl,hlen,hf⟩:=DataW.trod_struct ht h
 match xs,hlen with
 | [y0,y1,y2,y3,y4],_=>exact ⟨y0,y1,y2,y3,y4,n,by simp,by simpa using hf 0 f0 rfl,by simpa using hf 1 f1 rfl,by simpa using hf 2 f2 rfl,by simpa using hf 3 f3 rfl,by simpa using hf 4 f4 rfl⟩
set_option maxRecDepth 100000 in
theorem cell_perss {fuel:Nat} {v:Value} {y:DataW H × List MemPlace} (h:DataW.trod enc Tryz.prog w base spare held fuel 48 [v]=some y) (hli:Light 48 y.1):∃ ps:List P4,Perss w v ps∧ps.length≤140737488355328∧∀ q∈ps,Fit47 q:=by
 obtain ⟨ps,a,c,rfl,h1,h2,h3,h4⟩:=open_rows (α:=P4) (fun q f=>f 0=some (.string (bs q.1))∧f 1=some (.string (bs q.2.1))∧f 2=some (.string (bs q.2.2.1))∧f 3=some (.string (bs q.2.2.2))∧Fit47 q) Tryz.underlying48 Tryz.cellsPers (by omega) (by
  intro n cs z hl ht hz
  obtain ⟨y0,y1,y2,y3,n',hx,_,h0,h1,h2,h3⟩:=trod_struct4 Tryz.underlying77 ht
  match cs,hl with
  | [v0,v1,v2,v3],_ =>
   simp only [Tryz.cellsStr,List.drop_succ_cons,List.drop_zero,List.take_succ_cons,List.take_zero] at h0 h1 h2 h3
   obtain ⟨q0,rfl,f0⟩:=trod_str_l h0 (Light.part Tryz.underlying77 (by subst hx; exact hz) (j:=0) rfl rfl)
   obtain ⟨q1,rfl,f1⟩:=trod_str_l h1 (Light.part Tryz.underlying77 (by subst hx; exact hz) (j:=1) rfl rfl)
   obtain ⟨q2,rfl,f2⟩:=trod_str_l h2 (Light.part Tryz.underlying77 (by subst hx; exact hz) (j:=2) rfl rfl)
   obtain ⟨q3,rfl,f3⟩:=trod_str_l h3 (Light.part Tryz.underlying77 (by subst hx; exact hz) (j:=3) rfl rfl)
   exact ⟨(q0,q1,q2,q3),rfl,rfl,rfl,rfl,f0,f1,f2,f3⟩) (of_decide_eq_true (by kernel_rfl)) h hli
 refine ⟨ps,⟨a,c,rfl,h1,fun q=>?_⟩,h2,fun q hq=>?_⟩
 ·obtain ⟨g,o,ha,hg,hc⟩:=h3 q
  refine ⟨g,o,ha,hg,fun j x hx=>?_⟩
  obtain ⟨f,⟨p0,p1,p2,p3,_⟩,hcell⟩:=hc j x hx
  exact ⟨(hcell 0 (by omega)).trans p0,(hcell 1 (by omega)).trans p1,(hcell 2 (by omega)).trans p2,(hcell 3 (by omega)).trans p3⟩
 ·obtain ⟨f,_,_,_,_,p⟩:=h4 q hq
  exact p
set_option maxRecDepth 100000 in
theorem open_srcs {r:Reach} {b0:Nat} {v:Value} {d:DataW H} {p:List MemPlace} (hv:Value.okWide Tryz.prog w r b0 31 v) (h:DataW.Trod enc Tryz.prog w base spare held 31 v d p) (hli:Light 31 d) :
  ∃ ss:List SrcT,Srcs w v ss∧ss.length≤140737488355328∧∀ s∈ss,FitS s:=by
 obtain ⟨a0,l0,c0,rfl⟩:=okWide_slice Tryz.underlying31 hv
 obtain ⟨fuel,hf⟩:=h
 simp only [Value.cells] at hf
 obtain ⟨ss,a,c,hv2,h1,h2,h3,h4⟩:=open_rows (α:=SrcT) (fun s f=>(∃ vA vE vF,f 0=some (.string (bs s.key))∧f 1=some (.string (bs s.type))∧f 2=some vA∧f 3=some vE∧f 4=some vF∧Perss w vA s.author∧Perss w vE s.editor∧Prs w vF s.fields)∧FitS s) Tryz.underlying31 Tryz.cellsSrc (by omega) (by
  intro n cs z hl ht hz
  obtain ⟨y0,y1,y2,y3,y4,n',hx,h0,h1,h2,h3,h4⟩:=trod_struct5 Tryz.underlying50 ht
  match cs,hl with
  | [v0,v1,v2,v3,v4],_ =>
   simp only [Tryz.cellsStr,Tryz.cellsLp,Tryz.cellsLf,List.drop_succ_cons,List.drop_zero,List.take_succ_cons,List.take_zero] at h0 h1 h2 h3 h4
   obtain ⟨q0,rfl,f0⟩:=trod_str_l h0 (Light.part Tryz.underlying50 (by rw [hx] at hz; exact hz) (j:=0) rfl rfl)
   obtain ⟨q1,rfl,f1⟩:=trod_str_l h1 (Light.part Tryz.underlying50 (by rw [hx] at hz; exact hz) (j:=1) rfl rfl)
   obtain ⟨q2,p2,l2,f2⟩:=cell_perss h2 (Light.part Tryz.underlying50 (by rw [hx] at hz; exact hz) (j:=2) rfl rfl)
   obtain ⟨q3,p3,l3,f3⟩:=cell_perss h3 (Light.part Tryz.underlying50 (by rw [hx] at hz; exact hz) (j:=3) rfl rfl)
   obtain ⟨q4,p4,l4,f4⟩:=cell_pairs h4 (Light.part Tryz.underlying50 (by rw [hx] at hz; exact hz) (j:=4) rfl rfl)
   refine ⟨⟨q0,q1,q2,q3,q4⟩,⟨v2,v3,v4,rfl,rfl,rfl,rfl,rfl,p2,p3,p4⟩,?_⟩
   exact ⟨f0,f1,l2,l3,l4,f4,fun q hq=>(List.mem_append.1 hq).elim (fun h=>f2 q h) (fun h=>f3 q h)⟩) (of_decide_eq_true (by kernel_rfl)) hf hli
 refine ⟨ss,⟨a,c,hv2,h1,fun q=>?_⟩,h2,fun s hs=>?_⟩
 ·obtain ⟨g,o,ha,hg,hc⟩:=h3 q
  refine ⟨g,o,ha,hg,fun j x hx=>?_⟩
  obtain ⟨f,⟨⟨vA,vE,vF,p0,p1,p2,p3,p4,p5⟩,_⟩,hcell⟩:=hc j x hx
  exact ⟨vA,vE,vF,(hcell 0 (by omega)).trans p0,(hcell 1 (by omega)).trans p1,(hcell 2 (by omega)).trans p2,(hcell 3 (by omega)).trans p3,(hcell 4 (by omega)).trans p4,p5⟩
 ·obtain ⟨f,_,p⟩:=h4 s hs
  exact p
end
end Go.Proofs.YtmcoomlkbgiboaaGreatDoor

/- lines.Join. Conditions: lengths. -/
set_option linter.all false
namespace Go.Proofs.YtmcoomlkbgiboaaGreatDoor
open Go.RowKit

theorem byteCells_app (a b:Bs):Lib.byteCells (a ++ b)=Lib.byteCells a ++ Lib.byteCells b:=by simp [Lib.byteCells]

end Go.Proofs.YtmcoomlkbgiboaaGreatDoor

/- Collations in plain Lean: letters, rules, errors, keys. No condition. -/
set_option linter.all false
namespace Go.Proofs.YtmcoomlkbgiboaaGreatDoor
open Go.RowKit

/-- The letters of a text. -/
def ptsL (l:Bs):List Int:=(points (bs l)).map (·.1)
structure ColT where
 ranks:List Pr
 order:List Bs
 ignore:Bs
/-- The index of the first element of Order with a letter. -/
def grpI (c:ColT) (x:Int):Option Nat:=c.order.findIdx? fun s=>(ptsL s).contains x
def rankI (c:ColT) (x:Int):Int:=if x=32 then 0 else match grpI c x with
 | some i=>(i:Int)+1
 | none=>(c.order.length:Int)+1+x
/-- The letters as which a letter is sorted. -/
def valI (c:ColT) (x:Int):Option (List Int):=(c.ranks.find? fun p=>ptsL p.1 == [x]).map fun p=>ptsL p.2
def keyI1 (c:ColT) (x:Int):List Int:=if (ptsL c.ignore).contains x=true then [] else match valI c x with
 | some v=>v.map (rankI c)
 | none=>[rankI c x]
def keyI (c:ColT) (s:Bs):List Int:=(ptsL s).flatMap (keyI1 c)
/-- How lists of numbers compare. -/
def cmpI:List Int→List Int→Int
 | [],[]=>0
 | [],_=>-1
 | _,[]=>1
 | x :: xs,y :: ys=>if x<y then -1 else if y<x then 1 else cmpI xs ys
def cmpB (a b:Bs):Int:=cmpI (a.map fun x=>(x.toNat:Int)) (b.map fun x=>(x.toNat:Int))
def cmpC (c:ColT) (a b:Bs):Int:=if cmpI (keyI c a) (keyI c b)≠0 then cmpI (keyI c a) (keyI c b) else cmpB a b
end Go.Proofs.YtmcoomlkbgiboaaGreatDoor

/- strings.IndexAny at ASCII sets, every text: the place. Conditions: lengths. -/
set_option linter.all false
namespace Go.Proofs.YtmcoomlkbgiboaaGreatDoor
open Go.RowKit

def IdxPost (l cs:Bs) (w:World) (e:Ending) (w':World):Prop:=e=.returned (.int .i64 (Lib.indexAny l cs))∧Kept w w'
theorem indexAny_hit (cs:Bs):∀ (l:Bs) (pos:Nat),(∀ b∈l.take pos,inSet cs b=false)→(∃ x,l[pos]? = some x∧inSet cs x=true)→Lib.indexAny l cs=(pos:Int)
 | [],pos,_,⟨x,hx,_⟩=>by simp at hx
 | b :: l,0,_,⟨x,hx,hc⟩=>by
  simp at hx
  subst hx
  unfold inSet at hc
  rw [Lib.indexAny,if_pos hc]; rfl
 | b :: l,pos+1,h,⟨x,hx,hc⟩=>by
  have hb:cs.contains b=false:=h b (by simp)
  have ih:=indexAny_hit cs l pos (fun y hy=>h y (by rw [List.take_succ_cons]; exact List.mem_cons_of_mem _ hy)) ⟨x,by simpa using hx,hc⟩
  rw [Lib.indexAny,hb,ih]
  have:((pos:Int) == -1)=false:=by rw [beq_eq_false_iff_ne]; omega
  rw [this]; simp
theorem indexAny_none (cs:Bs):∀ l:Bs,(∀ b∈l,inSet cs b=false)→Lib.indexAny l cs = -1
 | [],_=>rfl
 | b :: l,h=>by
  have hb:cs.contains b=false:=h b (by simp)
  rw [Lib.indexAny,hb,indexAny_none cs l (fun y hy=>h y (List.mem_cons_of_mem _ hy))]; rfl
theorem take_one (f:UInt8→Bool) (l:Bs) (pos:Nat) (h:pos<l.length) (h1:∀ b∈l.take pos,f b=false) (h2:f l[pos]=false):∀ b∈l.take (pos+1),f b=false:=by
 intro b hb
 rw [List.take_succ_eq_append_getElem h] at hb
 rcases List.mem_append.1 hb with q | q
 ·exact h1 b q
 ·simp at q; rw [q]; exact h2
theorem take_high (f:UInt8→Bool) (hf:∀ b:UInt8,128≤(b.toNat:Int)→f b=false) (l:Bs):∀ (n i:Nat),(∀ b∈l.take i,f b=false)→(∀ j,j<n→128≤byteAt (bs l) (i+j))→∀ b∈l.take (i+n),f b=false
 | 0,i,h,_=>h
 | n+1,i,h,hh=>by
  rcases Nat.lt_or_ge i l.length with q | q
  ·have h1:=hh 0 (by omega)
   rw [Nat.add_zero,byteAt_bs,at8_get l i q] at h1
   have:=take_high f hf l n (i+1) (take_one f l i q h (hf _ h1)) (fun j hj=>by have:=hh (j+1) (by omega); rwa [show i+1+j=i+(j+1) from by omega])
   rwa [show i+(n+1)=i+1+n from by omega]
  ·intro b hb
   rw [List.take_of_length_le (by omega)] at hb
   exact h b (by rw [List.take_of_length_le q]; exact hb)

set_option maxRecDepth 100000 in
set_option maxHeartbeats 1600000 in
theorem iidx_short (l cs:Bs) (w:World) (hcs:Ascii cs) (hl:cs.length≤1000) (h2:2≤cs.length) (h8:l.length≤8) :
  Calls Tryz.prog 118 #[.string (bs l),.string (bs cs)] w (IdxPost l cs w):=by
 have hne1:((cs.length:Int) == 1)=false:=by rw [beq_eq_false_iff_ne]; omega
 have hce:cs.isEmpty=false:=by cases cs <;> simp at h2 ⊢
 have hce':¬ cs=[]:=by cases cs <;> simp at h2 ⊢
 have hf:∀ b:UInt8,128≤(b.toNat:Int)→inSet cs b=false:=fun b hb=>by
  unfold inSet
  rw [Bool.eq_false_iff]
  intro q
  have:=hcs b (by simpa using q)
  omega
 have HF:=Lib.hid hf
 clear hf
 go_enter Tryz.func118,Tryz.ntmps118
 go_wp2_with (go_at_call 159; refine (Tryz.strings_shouldUseASCIISet _ _).mono ?_; rintro e w' ⟨rfl,hw⟩; obtain rfl:=hw.symm)
 go_loopw [9] (fun u wr=>∃ pos:Nat,pos≤l.length∧wr.heap[w.heap.size]? = some (.stringIter (bs l) pos)∧Kept w wr∧Hid (∀ b∈l.take pos,inSet cs b=false)) (fun u wr=>l.length - wr.iterPos w.heap.size)
 case atStart=>exact ⟨0,Nat.zero_le _,World.iter_heap _ _ _,kept_alloc _ _,(by show ∀ b∈_,_; simp)⟩
 case round =>
  obtain ⟨pos,hp,hit,hk,HA⟩:=hrel
  have hip:wr.iterPos w.heap.size=pos:=by simp [World.iterPos,hit]
  have hsz:w.heap.size<wr.heap.size:=by
   rcases Nat.lt_or_ge w.heap.size wr.heap.size with q | q
   ·exact q
   ·rw [Array.getElem?_eq_none q] at hit; cases hit
  by_cases hlt:pos<l.length
  ·have nx:=fun ty=>run_next_k (P:=Tryz.prog) wr w.heap.size (bs l) pos ty hit hlt
   have hb:=dec_bounds (bs l) pos hlt
   have h0:=at8_lo l pos
   have hit2:∀ p,(wr.iterAt w.heap.size (bs l) p).heap[w.heap.size]? = some (.stringIter (bs l) p):=fun p=>Lib.iterAt_heap wr w.heap.size (bs l) pos p hit
   have hk2:∀ p,Kept w (wr.iterAt w.heap.size (bs l) p):=fun p=>Lib.below_iterAt hk (Nat.le_refl _) (bs l) p
   have HIT:=Lib.hid hit2
   have HK2:=Lib.hid hk2
   have HIP:=Lib.hid hip
   clear hit2 hk2 hip
   by_cases ha:at8 l pos<128
   ·have HL1:=Lib.hid (fun h:inSet cs l[pos]=true=>indexAny_hit cs l pos HA.out ⟨l[pos],List.getElem?_eq_getElem hlt,h⟩)
    have HL2:=Lib.hid (fun h:inSet cs l[pos]=false=>take_one (inSet cs) l pos hlt HA.out h)
    rw [dec_ascii l pos ha] at nx
    simp only at nx
    have HB:Hid (at8 l pos=(l[pos].toNat:Int)):=at8_get l pos hlt
    generalize l[pos]=x at *
    generalize at8 l pos=c at *
    have HX:Hid (∀ w,Calls Tryz.prog 158 #[.string (bs cs),.int .i32 c] w fun e w'=>e=.returned (.int .i64 (Lib.indexByte cs x))∧w=w'):=by
     intro w
     refine (Tryz.strings_IndexRune_ascii (bs cs) c w h0 ha).mono ?_
     rintro e w' ⟨rfl,rfl⟩
     refine ⟨?_,rfl⟩
     rw [HB.out,Int.toNat_natCast,show x.toNat.toUInt8=x from by simp,bs_data]
    have HC:Hid (decide (0≤Lib.indexByte cs x)=inSet cs x):=indexByte_contains x cs
    have hge:=Lib.indexByte_ge cs x
    generalize Lib.indexByte cs x=r at *
    by_cases hr:0≤r
    ·go_wp2_with fail
     refine (HX.out _).mono ?_
     rintro e w1 ⟨rfl,rfl⟩
     go_wp2_with fail
     go_ret
     exact ⟨ret_int (HL1.out (by rw [← HC.out]; exact decide_eq_true hr)).symm,HK2.out _⟩
    ·go_wp2_with fail
     refine (HX.out _).mono ?_
     rintro e w1 ⟨rfl,rfl⟩
     go_wp2_with fail
     go_roundw
     case rel=>exact ⟨pos+1,by omega,HIT.out _,HK2.out _,HL2.out (by rw [← HC.out]; exact decide_eq_false (by omega))⟩
     case measure=>rw [HIP.out]; have:=HIT.out (pos+1); simp [World.iterPos,this]; omega
   ·have HS:Hid (∀ b∈l.take (pos+(dec (bs l) pos).2.toNat),inSet cs b=false):=take_high (inSet cs) HF.out l _ pos HA.out (dec_high (bs l) pos (by rw [byteAt_bs]; omega)).2
    have hc:=(dec_high (bs l) pos (by rw [byteAt_bs]; omega)).1
    obtain ⟨c,n,hd⟩:∃ c n,dec (bs l) pos=(c,n):=⟨(dec (bs l) pos).1,(dec (bs l) pos).2,rfl⟩
    rw [hd] at nx hb HS hc
    simp only at nx hb HS hc
    obtain ⟨b1,b2,b3,b4,b5⟩:=hb
    simp only [bs_size] at b5
    have HX:Hid (∀ w,Calls Tryz.prog 158 #[.string (bs cs),.int .i32 c] w fun e w'=>e=.returned (.int .i64 (-1))∧Kept w w'):=by
     intro w
     by_cases q:c=65533
     ·rw [q]; exact irune_err cs w hcs hl
     ·refine (irune_big cs c w hc b2 (by rw [beq_eq_false_iff_ne]; exact q) hcs hl).mono ?_
      rintro e w' ⟨rfl,n,rfl⟩
      exact ⟨rfl,kept_drewN _ _⟩
    clear hd
    go_wp2_with fail
    refine (HX.out _).mono ?_
    rintro e w1 ⟨rfl,hk1⟩
    have HK1:=Lib.hid hk1
    clear hk1
    go_wp2_with fail
    go_roundw
    case rel =>
     refine ⟨pos+n.toNat,by omega,?_,(HK2.out _).trans HK1.out,HS.out⟩
     rw [HK1.out.block _ (by rw [Lib.iterAt_size]; exact hsz)]
     exact HIT.out _
    case measure =>
     have:=HIT.out (pos+n.toNat)
     rw [← HK1.out.block _ (by rw [Lib.iterAt_size]; exact hsz)] at this
     rw [HIP.out]
     simp [World.iterPos,this]; omega
  ·have nx:=fun ty=>run_next_k_end (P:=Tryz.prog) wr w.heap.size (bs l) pos ty hit hlt
   go_wp2_with fail
   go_ret
   exact ⟨ret_int (indexAny_none cs l (fun b hb=>HA.out b (by rw [List.take_of_length_le (by omega)]; exact hb))).symm,hk⟩

theorem iidx_any (l cs:Bs) (w:World) (hcs:Ascii cs) (hl:cs.length≤1000) (h2:2≤cs.length) (hs:l.length≤1000000000) :
  Calls Tryz.prog 118 #[.string (bs l),.string (bs cs)] w (IdxPost l cs w):=by
 by_cases h8:l.length≤8
 ·exact iidx_short l cs w hcs hl h2 h8
 ·refine (Tryz.strings_IndexAny_long zero_set (bs l) (bs cs) w (by simpa using h2) (by simp; omega) (by simp; omega) (by simp; omega) (fun j b hb=>?_)).mono ?_
  ·have:=hcs b (List.mem_of_getElem? (by simpa using hb)); omega
  ·rintro e w' ⟨rfl,rfl⟩
   exact ⟨rfl,(kept_alloc _ _).trans (kept_alloc _ _)⟩
end Go.Proofs.YtmcoomlkbgiboaaGreatDoor
