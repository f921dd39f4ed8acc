/- weight and small of law30. No condition. -/
import Derived.Test.YtmcoomlkbgiboaaGreatDoorU10
import Derived.Test.YtmcoomlkbgiboaaGreatDoorU12
import Derived.Test.YtmcoomlkbgiboaaGreatDoorU09
import Derived.Test.YtmcoomlkbgiboaaGreatDoorU08
import Derived.Test.YtmcoomlkbgiboaaGreatDoorU06
import Derived.Test.YtmcoomlkbgiboaaGreatDoorU05
import Derived.Deep.Upon
import Derived.Deep.RegionHeld3
set_option linter.all false
set_option maxRecDepth 100000
namespace Go.Proofs.YtmcoomlkbgiboaaGreatDoor
open Go.RowKit
def FitS (s:SrcT):Prop:=s.key.length<=140737488355328/\s.type.length<=140737488355328/\s.author.length<=140737488355328/\s.editor.length<=140737488355328/\s.fields.length<=140737488355328 /\
 (∀ f∈s.fields,f.1.length<=140737488355328/\f.2.length<=140737488355328)/\∀ q∈s.author ++ s.editor,q.1.length<=140737488355328/\q.2.1.length<=140737488355328/\q.2.2.1.length<=140737488355328/\q.2.2.2.length<=140737488355328
end Go.Proofs.YtmcoomlkbgiboaaGreatDoor
namespace Go.Proofs.YtmcoomlkbgiboaaGreatDoor
open Go.ChangeShapes Go.WideShapes Go.ChangeAt Go.RowKit Go.Joins
instance:Inhabited SrcT:=⟨⟨[],[],[],[],[]⟩⟩
def Fit47 (q:P4):Prop:=q.1.length<=140737488355328/\q.2.1.length<=140737488355328/\q.2.2.1.length<=140737488355328/\q.2.2.2.length<=140737488355328
section
variable {H:Type} {enc:TypeId × Value->H} {w:World} {base:Nat} {spare:Nat->Bool} {held:Bool}
theorem Tryz.cellsSrc:Tryz.prog.cellsOf 50=5:=by kernel_rfl
theorem Tryz.cellsLp:Tryz.prog.cellsOf 48=1:=by kernel_rfl
theorem Tryz.cellsLf:Tryz.prog.cellsOf 22=1:=by kernel_rfl
theorem zqK {t:TypeId} {f0 f1 f2 f3 f4:Field} {fuel:Nat} {cs:List Value} {x:DataW H × List MemPlace} (ht:Tryz.prog.underlying t=some (.struct #[f0,f1,f2,f3,f4])) (h:DataW.trod enc Tryz.prog w base spare held fuel t cs=some x) :
  ∃ y0 y1 y2 y3 y4 n,x.1=.agg [y0.1,y1.1,y2.1,y3.1,y4.1]/\DataW.trod enc Tryz.prog w base spare held n f0.type ((cs.drop f0.offset).take (Tryz.prog.cellsOf f0.type))=some y0/\DataW.trod enc Tryz.prog w base spare held n f1.type ((cs.drop f1.offset).take (Tryz.prog.cellsOf f1.type))=some y1/\DataW.trod enc Tryz.prog w base spare held n f2.type ((cs.drop f2.offset).take (Tryz.prog.cellsOf f2.type))=some y2 /\
   DataW.trod enc Tryz.prog w base spare held n f3.type ((cs.drop f3.offset).take (Tryz.prog.cellsOf f3.type))=some y3/\DataW.trod enc Tryz.prog w base spare held n f4.type ((cs.drop f4.offset).take (Tryz.prog.cellsOf f4.type))=some y4:=by
 obtain ⟨xs,n,_,rfl,hl,hlen,hf⟩:=DataW.trod_struct ht h
 match xs,hlen with
 | [y0,y1,y2,y3,y4],_=>exact ⟨y0,y1,y2,y3,y4,n,by simp,by simpa using hf 0 f0 rfl,by simpa using hf 1 f1 rfl,by simpa using hf 2 f2 rfl,by simpa using hf 3 f3 rfl,by simpa using hf 4 f4 rfl⟩
theorem znI {fuel:Nat} {v:Value} {y:DataW H × List MemPlace} (h:DataW.trod enc Tryz.prog w base spare held fuel 48 [v]=some y) (hli:Light 48 y.1):∃ ps:List P4,Perss w v ps/\ps.length<=140737488355328/\∀ q∈ps,Fit47 q:=by
 obtain ⟨ps,a,c,rfl,h1,h2,h3,h4⟩:=zlF (α:=P4) (fun q f=>f 0=some (.string (bs q.1))/\f 1=some (.string (bs q.2.1))/\f 2=some (.string (bs q.2.2.1))/\f 3=some (.string (bs q.2.2.2))/\Fit47 q) Tryz.underlying48 Tryz.cellsPers (by omega) (by
  intro n cs z hl ht hz;obtain ⟨y0,y1,y2,y3,n',hx,_,h0,h1,h2,h3⟩:=trod_struct4 Tryz.underlying77 ht
  match cs,hl with
  | [v0,v1,v2,v3],_ =>
   simp only[Tryz.cellsStr,List.drop_succ_cons,List.drop_zero,List.take_succ_cons,List.take_zero] at h0 h1 h2 h3;obtain ⟨q0,rfl,f0⟩:=zbH h0 (Light.part Tryz.underlying77 (by subst hx;exact hz) (j:=0) rfl rfl);obtain ⟨q1,rfl,f1⟩:=zbH h1 (Light.part Tryz.underlying77 (by subst hx;exact hz) (j:=1) rfl rfl);obtain ⟨q2,rfl,f2⟩:=zbH h2 (Light.part Tryz.underlying77 (by subst hx;exact hz) (j:=2) rfl rfl);obtain ⟨q3,rfl,f3⟩:=zbH h3 (Light.part Tryz.underlying77 (by subst hx;exact hz) (j:=3) rfl rfl);exact ⟨(q0,q1,q2,q3),rfl,rfl,rfl,rfl,f0,f1,f2,f3⟩) (of_decide_eq_true (by kernel_rfl)) h hli
 refine ⟨ps,⟨a,c,rfl,h1,fun q=>?_⟩,h2,fun q hq=>?_⟩
 ·obtain ⟨g,o,ha,hg,hc⟩:=h3 q;refine ⟨g,o,ha,hg,fun j x hx=>?_⟩;obtain ⟨f,⟨p0,p1,p2,p3,_⟩,hcell⟩:=hc j x hx;exact ⟨(hcell 0 (by omega)).trans p0,(hcell 1 (by omega)).trans p1,(hcell 2 (by omega)).trans p2,(hcell 3 (by omega)).trans p3⟩
 ·obtain ⟨f,_,_,_,_,p⟩:=h4 q hq;exact p
theorem zyC {r:Reach} {b0:Nat} {v:Value} {d:DataW H} {p:List MemPlace} (hv:Value.okWide Tryz.prog w r b0 31 v) (h:DataW.Trod enc Tryz.prog w base spare held 31 v d p) (hli:Light 31 d) :
  ∃ ss:List SrcT,Srcs w v ss/\ss.length<=140737488355328/\∀ s∈ss,FitS s:=by
 obtain ⟨a0,l0,c0,rfl⟩:=okWide_slice Tryz.underlying31 hv;obtain ⟨fuel,hf⟩:=h;simp only[Value.cells] at hf;obtain ⟨ss,a,c,hv2,h1,h2,h3,h4⟩:=zlF (α:=SrcT) (fun s f=>(∃ vA vE vF,f 0=some (.string (bs s.key))/\f 1=some (.string (bs s.type))/\f 2=some vA/\f 3=some vE/\f 4=some vF/\Perss w vA s.author/\Perss w vE s.editor/\Prs w vF s.fields)/\FitS s) Tryz.underlying31 Tryz.cellsSrc (by omega) (by
  intro n cs z hl ht hz;obtain ⟨y0,y1,y2,y3,y4,n',hx,h0,h1,h2,h3,h4⟩:=zqK Tryz.underlying50 ht
  match cs,hl with
  | [v0,v1,v2,v3,v4],_ =>
   simp only[Tryz.cellsStr,Tryz.cellsLp,Tryz.cellsLf,List.drop_succ_cons,List.drop_zero,List.take_succ_cons,List.take_zero] at h0 h1 h2 h3 h4;obtain ⟨q0,rfl,f0⟩:=zbH h0 (Light.part Tryz.underlying50 (by rw[hx] at hz;exact hz) (j:=0) rfl rfl);obtain ⟨q1,rfl,f1⟩:=zbH h1 (Light.part Tryz.underlying50 (by rw[hx] at hz;exact hz) (j:=1) rfl rfl);obtain ⟨q2,p2,l2,f2⟩:=znI h2 (Light.part Tryz.underlying50 (by rw[hx] at hz;exact hz) (j:=2) rfl rfl);obtain ⟨q3,p3,l3,f3⟩:=znI h3 (Light.part Tryz.underlying50 (by rw[hx] at hz;exact hz) (j:=3) rfl rfl);obtain ⟨q4,p4,l4,f4⟩:=znB h4 (Light.part Tryz.underlying50 (by rw[hx] at hz;exact hz) (j:=4) rfl rfl);refine ⟨⟨q0,q1,q2,q3,q4⟩,⟨v2,v3,v4,rfl,rfl,rfl,rfl,rfl,p2,p3,p4⟩,?_⟩;exact ⟨f0,f1,l2,l3,l4,f4,fun q hq=>(List.mem_append.1 hq).elim (fun h=>f2 q h) (fun h=>f3 q h)⟩) (of_decide_eq_true (by kernel_rfl)) hf hli
 refine ⟨ss,⟨a,c,hv2,h1,fun q=>?_⟩,h2,fun s hs=>?_⟩
 ·obtain ⟨g,o,ha,hg,hc⟩:=h3 q;refine ⟨g,o,ha,hg,fun j x hx=>?_⟩;obtain ⟨f,⟨⟨vA,vE,vF,p0,p1,p2,p3,p4,p5⟩,_⟩,hcell⟩:=hc j x hx;exact ⟨vA,vE,vF,(hcell 0 (by omega)).trans p0,(hcell 1 (by omega)).trans p1,(hcell 2 (by omega)).trans p2,(hcell 3 (by omega)).trans p3,(hcell 4 (by omega)).trans p4,p5⟩
 ·obtain ⟨f,_,p⟩:=h4 s hs;exact p
end
end Go.Proofs.YtmcoomlkbgiboaaGreatDoor
namespace Go.Proofs.YtmcoomlkbgiboaaGreatDoor
open Go.RowKit
theorem zh6 (a b:Bs):Lib.byteCells (a ++ b)=Lib.byteCells a ++ Lib.byteCells b:=by simp [Lib.byteCells]
def zeV (l:Bs):List Int:=(zf0 (bs l)).map (·.1)
structure ColT where
 ranks:List Pr
 order:List Bs
 ignore:Bs
def zDj (c:ColT) (x:Int):Option Nat:=c.order.findIdx? fun s=>(zeV s).contains x
def zh7 (c:ColT) (x:Int):Int:=if x=32 then 0 else match zDj c x with
 | some i=>(i:Int)+1
 | none=>(c.order.length:Int)+1+x
def znJ (c:ColT) (x:Int):Option (List Int):=(c.ranks.find? fun p=>zeV p.1 == [x]).map fun p=>zeV p.2
def zi7 (c:ColT) (x:Int):List Int:=if (zeV c.ignore).contains x=true then [] else match znJ c x with
 | some v=>v.map (zh7 c)
 | none=>[zh7 c x]
def zgG (c:ColT) (s:Bs):List Int:=(zeV s).flatMap (zi7 c)
def zf4:List Int->List Int->Int
 | [],[]=>0
 | [],_=>-1
 | _,[]=>1
 | x :: xs,y :: ys=>if x<y then -1 else if y<x then 1 else zf4 xs ys
def zCU (a b:Bs):Int:=zf4 (a.map fun x=>(x.toNat:Int)) (b.map fun x=>(x.toNat:Int))
def zm0 (c:ColT) (a b:Bs):Int:=if zf4 (zgG c a) (zgG c b)≠0 then zf4 (zgG c a) (zgG c b) else zCU a b
end Go.Proofs.YtmcoomlkbgiboaaGreatDoor
