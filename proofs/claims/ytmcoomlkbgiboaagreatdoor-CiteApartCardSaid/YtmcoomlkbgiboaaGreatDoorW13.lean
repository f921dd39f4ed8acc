/- bib.Check. Conditions: lengths. -/
import Derived.Test.YtmcoomlkbgiboaaGreatDoorW12
import Derived.Test.YtmcoomlkbgiboaaGreatDoorW11
import Derived.Test.YtmcoomlkbgiboaaGreatDoorW09
import Derived.Test.YtmcoomlkbgiboaaGreatDoorW08
import Derived.Deep.Upon
import Derived.Deep.RegionHeld3
set_option linter.all false
set_option maxRecDepth 100000
set_option maxHeartbeats 6400000
namespace Go.Proofs.YtmcoomlkbgiboaaGreatDoor
open Go.RowKit
def zAR:List Bs->List SrcT->Int
 | _,[]=>0
 | ks,s :: ss=>if zc0 s.type=false\/zc0 s.key=false then 6 else if ks.contains s.key=true then 7 else if zw7 s≠0 then zw7 s else zAR (ks ++ [s.key]) ss
def ze2 (l:List SrcT):Int:=if 256<l.length then 3 else zAR [] l
theorem zyH (l:List SrcT) (ks:List Bs) (k:Nat) (s:SrcT) (h:l[k]? = some s):zAR ks (l.drop k)=if zc0 s.type=false\/zc0 s.key=false then 6 else if ks.contains s.key=true then 7 else if zw7 s≠0 then zw7 s else zAR (ks ++ [s.key]) (l.drop (k+1)):=by
 obtain ⟨hk,rfl⟩:=List.getElem?_eq_some_iff.1 h;rw[List.drop_eq_getElem_cons hk];rfl
theorem Srcs.kept {w w':World} {v:Value} {ss:List SrcT} (h:Srcs w v ss) (k:Kept w w'):Srcs w' v ss:=by
 obtain ⟨a,c,hv,hc,h3⟩:=h;refine ⟨a,c,hv,hc,fun q=>?_⟩;obtain ⟨g,o,ha,hg,hcell⟩:=h3 q;refine ⟨g,o,ha,Nat.lt_of_lt_of_le hg k.size,fun j x hx=>?_⟩;obtain ⟨vA,vE,vF,c0,c1,c2,c3,c4,h1,h2,h3⟩:=hcell j x hx;exact ⟨vA,vE,vF,(k.cell (p:=⟨g,_,none⟩) hg).trans c0,(k.cell (p:=⟨g,_,none⟩) hg).trans c1,(k.cell (p:=⟨g,_,none⟩) hg).trans c2,(k.cell (p:=⟨g,_,none⟩) hg).trans c3,(k.cell (p:=⟨g,_,none⟩) hg).trans c4,h1.kept k,h2.kept k,h3.kept k⟩
def SmallS (s:SrcT):Prop:=SmallP s.author/\SmallP s.editor/\SmallF s.fields/\s.author.length<=1100000/\s.editor.length<=1100000/\s.fields.length<=1100000/\s.key.length<=1100000/\s.type.length<=1100000
theorem zyI (v:Value) (ss:List SrcT) (w:World) (hg:Gnd w) (hv:Srcs w v ss) (hs:∀ s∈ss,SmallS s) (hl:ss.length<=1100000) :
  Calls Tryz.prog 70 #[v] w fun e w'=>e=.returned (.int .i64 (ze2 ss))/\Kept w w':=by
 have HV:=Hd hv;have HR:Hid (ze2 ss=if 256<ss.length then 3 else zAR [] ss):=rfl;obtain ⟨R,HRR⟩:∃ R,Hid (ze2 ss=R):=⟨_,rfl⟩;rw[HRR.out] at HR ⊢;clear HRR;obtain ⟨a,c,rfl,hc,hh⟩:=hv;clear hh;have mk:=fun w=>run_makeMap (P:=Tryz.prog) 73 w;by_cases hlim:256<ss.length
 ·rw[if_pos hlim] at HR;go_enter Tryz.func70,Tryz.ntmps70;go_wp2_with fail;go_ret;exact ⟨by rw[HR.out];rfl,Kept.refl _⟩
 ·rw[if_neg hlim] at HR;have hlim':ss.length<=256:=(by omega);go_enter Tryz.func70,Tryz.ntmps70;go_wp2_with fail;go_loopw [13] (fun i wr=>∃ (k:Nat) (ks:List Bs),k<=ss.length/\i=.int .i64 k/\Hid (R=zAR ks (ss.drop k))/\Hid (MapK wr w.heap.size ks)/\Hid (Kept w wr)) (fun i _=>ss.length - (intOf i).toNat)
  case atStart=>exact ⟨0,[],Nat.zero_le _,rfl,HR,heap_alloc_new w _,zaA _ _⟩
  case round =>
   obtain ⟨k,ks,hk,rfl,HP,HM,HKR⟩:=hrel;by_cases hlt:k<ss.length
   ·obtain ⟨s,hx⟩:∃ x,ss[k]? = some x:=⟨_,List.getElem?_eq_getElem hlt⟩;have HSM:=Hd (hs s (List.mem_of_getElem? hx));have HAT:=Hd (zyH ss ks k s hx);rw[HAT.out] at HP;obtain ⟨a',c',hv',hc',h3⟩:=HV.out;obtain ⟨rfl,hdead,rfl⟩:=Value.slice.inj hv';clear hdead hc';obtain ⟨g,o,rfl,hg',hcc⟩:=h3 (by omega);obtain ⟨vA,vE,vF,t0,t1,t2,t3,t4,pA,pE,pF⟩:=hcc k s hx;have d0:=(HKR.out.cell (p:=⟨g,_,none⟩) hg').trans t0;have d1:=(HKR.out.cell (p:=⟨g,_,none⟩) hg').trans t1;have d2:=(HKR.out.cell (p:=⟨g,_,none⟩) hg').trans t2;have d3:=(HKR.out.cell (p:=⟨g,_,none⟩) hg').trans t3;have d4:=(HKR.out.cell (p:=⟨g,_,none⟩) hg').trans t4;clear t0 t1 t2 t3 t4;have hg2:g<wr.heap.size:=Nat.lt_of_lt_of_le hg' HKR.out.size;have HPS:=Hd (And.intro pA (And.intro pE pF));obtain ⟨aA,cA,rfl,zA,zA'⟩:=pA;obtain ⟨aE,cE,rfl,zE,zE'⟩:=pE;obtain ⟨aF,cF,rfl,zF,zF'⟩:=pF;clear zA zA' zE zE' zF zF';have HBK:=Hd (Blk.new wr 50 #[.string (bs s.key),.string (bs s.type),.slice aA s.author.length cA,.slice aE s.editor.length cE,.slice aF s.fields.length cF]);have HNT:=Hd (fun w=>zi1 s.type w HSM.out.2.2.2.2.2.2.2);have HNK:=Hd (fun w=>zi1 s.key w HSM.out.2.2.2.2.2.2.1);have HCS:=Hd (fun w hg pA pE pF=>zyG s (.slice aA s.author.length cA) (.slice aE s.editor.length cE) (.slice aF s.fields.length cF) w hg pA pE pF HSM.out.1 HSM.out.2.1 HSM.out.2.2.1 HSM.out.2.2.2.1 HSM.out.2.2.2.2.1 HSM.out.2.2.2.2.2.1);clear hcc h3 hv' hx HAT;go_wp2_with fail;refine (HNT.out _).mono ?_;rintro e w3 ⟨rfl,hk3⟩;have e0:w3.cell? ⟨wr.heap.size,0,none⟩=some (.string (bs s.key)):=(HBK.out.kept hk3).cell 0 _ rfl;have HBK3:=Hd (HBK.out.kept hk3);have HK3:=Hd ((zaA wr _).trans hk3);have z3:=HBK3.out.lt;clear hk3 d0 d1 d2 d3 d4 hg' hg2;cases hnt:zc0 s.type
    ·rw[if_pos (.inl hnt)] at HP;go_wp2_with fail;go_ret;exact ⟨by rw[HP.out];rfl,HKR.out.trans HK3.out⟩
    go_wp2_with fail;refine (HNK.out _).mono ?_;rintro e w4 ⟨rfl,hk4⟩;have f0:w4.cell? ⟨wr.heap.size,0,none⟩=some (.string (bs s.key)):=(HBK3.out.kept hk4).cell 0 _ rfl;have HBK4:=Hd (HBK3.out.kept hk4);have HK4:=Hd (HK3.out.trans hk4);have HM4:=Hd (HM.out.kept HK4.out);clear hk4 e0;cases hnk:zc0 s.key
    ·rw[if_pos (.inr hnk)] at HP;go_wp2_with fail;go_ret;exact ⟨by rw[HP.out];rfl,HKR.out.trans HK4.out⟩
    rw[if_neg (by simp [hnt,hnk])] at HP;have lk:=zvU w4 w.heap.size ks s.key HM4.out;cases hct:ks.contains s.key
    case true =>
     rw[if_pos hct] at HP;rw[hct] at lk;go_wp2_with fail;go_ret;exact ⟨by rw[HP.out];rfl,HKR.out.trans HK4.out⟩
    rw[if_neg (by rw[hct];simp)] at HP;rw[hct] at lk;have ins:=zEk w4 w.heap.size ks s.key HM4.out (by simpa using hct);have hne:wr.heap.size≠w.heap.size:=(by have:=HM.out.lt;omega);have HO5:=Hd (zdK w4 w.heap.size (ks ++ [s.key]));have HM5:=Hd (zgP w4 w.heap.size (ks ++ [s.key]) HM4.out.lt);have HB5:Hid (Blk (zoD w4 w.heap.size (ks ++ [s.key])) wr.heap.size 50 #[.string (bs s.key),.string (bs s.type),.slice aA s.author.length cA,.slice aE s.editor.length cE,.slice aF s.fields.length cF]):=(HO5.out.block _ HBK4.out.lt hne).trans HBK4.out;have HK5:Hid (Kept w (zoD w4 w.heap.size (ks ++ [s.key]))):=(HKR.out.trans HK4.out).trans' (HO5.out.below (HKR.out.trans HK4.out).size (fun i h=>by omega));generalize zoD w4 w.heap.size (ks ++ [s.key])=w5 at *;have g0:=HB5.out.cell 0 _ rfl;have g1:=HB5.out.cell 1 _ rfl;have g2:=HB5.out.cell 2 _ rfl;have g3:=HB5.out.cell 3 _ rfl;have g4:=HB5.out.cell 4 _ rfl;go_wp2_with fail;refine (HCS.out _ (hg.kept HK5.out) (HPS.out.1.kept HK5.out) (HPS.out.2.1.kept HK5.out) (HPS.out.2.2.kept HK5.out)).mono ?_;rintro e w6 ⟨rfl,hk6⟩;have HK6:=Hd (HK5.out.trans hk6);have HM6:=Hd (HM5.out.kept hk6);clear hk6 g0 g1 g2 g3 g4;generalize zw7 s=E at *;by_cases hE:E=0
    ·subst hE;rw[if_neg (by simp)] at HP;go_wp2_with fail;go_roundw
     case rel=>exact ⟨k+1,ks ++ [s.key],by omega,by go_num,HP,HM6,HK6⟩
     case measure=>simp [intOf];omega
    ·rw[if_pos hE] at HP;go_wp2_with fail;go_ret;exact ⟨by rw[HP.out];rfl,HK6.out⟩
   ·obtain rfl:k=ss.length:=(by omega);rw[List.drop_length] at HP;have HZ:Hid (R=0):=HP.out;go_wp2_with fail;go_ret;exact ⟨by rw[HZ.out];rfl,HKR.out⟩
def FitS (s:SrcT):Prop:=s.key.length<=140737488355328/\s.type.length<=140737488355328/\s.author.length<=140737488355328/\s.editor.length<=140737488355328/\s.fields.length<=140737488355328 /\
 (∀ f∈s.fields,f.1.length<=140737488355328/\f.2.length<=140737488355328)/\∀ q∈s.author ++ s.editor,q.1.length<=140737488355328/\q.2.1.length<=140737488355328/\q.2.2.1.length<=140737488355328/\q.2.2.2.length<=140737488355328
end Go.Proofs.YtmcoomlkbgiboaaGreatDoor
namespace Go.Proofs.YtmcoomlkbgiboaaGreatDoor
open Go.ChangeShapes Go.WideShapes Go.ChangeAt Go.RowKit Go.Joins
instance:Inhabited SrcT:=⟨⟨[],[],[],[],[]⟩⟩
def Fit47 (q:P4):Prop:=q.1.length<=140737488355328/\q.2.1.length<=140737488355328/\q.2.2.1.length<=140737488355328/\q.2.2.2.length<=140737488355328
section
variable {H:Type} {enc:TypeId × Value->H} {w:World} {base:Nat} {spare:Nat->Bool} {held:Bool}
theorem Tryz.cellsSrc:Tryz.prog.cellsOf 50=5:=by kernel_rfl
theorem Tryz.cellsLp:Tryz.prog.cellsOf 48=1:=by kernel_rfl
theorem Tryz.cellsLf:Tryz.prog.cellsOf 22=1:=by kernel_rfl
theorem zp5 {t:TypeId} {f0 f1 f2 f3 f4:Field} {fuel:Nat} {cs:List Value} {x:DataW H × List MemPlace} (ht:Tryz.prog.underlying t=some (.struct #[f0,f1,f2,f3,f4])) (h:DataW.trod enc Tryz.prog w base spare held fuel t cs=some x) :
  ∃ y0 y1 y2 y3 y4 n,x.1=.agg [y0.1,y1.1,y2.1,y3.1,y4.1]/\DataW.trod enc Tryz.prog w base spare held n f0.type ((cs.drop f0.offset).take (Tryz.prog.cellsOf f0.type))=some y0/\DataW.trod enc Tryz.prog w base spare held n f1.type ((cs.drop f1.offset).take (Tryz.prog.cellsOf f1.type))=some y1/\DataW.trod enc Tryz.prog w base spare held n f2.type ((cs.drop f2.offset).take (Tryz.prog.cellsOf f2.type))=some y2 /\
   DataW.trod enc Tryz.prog w base spare held n f3.type ((cs.drop f3.offset).take (Tryz.prog.cellsOf f3.type))=some y3/\DataW.trod enc Tryz.prog w base spare held n f4.type ((cs.drop f4.offset).take (Tryz.prog.cellsOf f4.type))=some y4:=by
 obtain ⟨xs,n,_,rfl,hl,hlen,hf⟩:=DataW.trod_struct ht h
 match xs,hlen with
 | [y0,y1,y2,y3,y4],_=>exact ⟨y0,y1,y2,y3,y4,n,by simp,by simpa using hf 0 f0 rfl,by simpa using hf 1 f1 rfl,by simpa using hf 2 f2 rfl,by simpa using hf 3 f3 rfl,by simpa using hf 4 f4 rfl⟩
theorem znG {fuel:Nat} {v:Value} {y:DataW H × List MemPlace} (h:DataW.trod enc Tryz.prog w base spare held fuel 48 [v]=some y) (hli:Light 48 y.1):∃ ps:List P4,Perss w v ps/\ps.length<=140737488355328/\∀ q∈ps,Fit47 q:=by
 obtain ⟨ps,a,c,rfl,h1,h2,h3,h4⟩:=zlF (α:=P4) (fun q f=>f 0=some (.string (bs q.1))/\f 1=some (.string (bs q.2.1))/\f 2=some (.string (bs q.2.2.1))/\f 3=some (.string (bs q.2.2.2))/\Fit47 q) Tryz.underlying48 Tryz.cellsPers (by omega) (by
  intro n cs z hl ht hz;obtain ⟨y0,y1,y2,y3,n',hx,_,h0,h1,h2,h3⟩:=trod_struct4 Tryz.underlying77 ht
  match cs,hl with
  | [v0,v1,v2,v3],_ =>
   simp only[Tryz.cellsStr,List.drop_succ_cons,List.drop_zero,List.take_succ_cons,List.take_zero] at h0 h1 h2 h3;obtain ⟨q0,rfl,f0⟩:=zbJ h0 (Light.part Tryz.underlying77 (by subst hx;exact hz) (j:=0) rfl rfl);obtain ⟨q1,rfl,f1⟩:=zbJ h1 (Light.part Tryz.underlying77 (by subst hx;exact hz) (j:=1) rfl rfl);obtain ⟨q2,rfl,f2⟩:=zbJ h2 (Light.part Tryz.underlying77 (by subst hx;exact hz) (j:=2) rfl rfl);obtain ⟨q3,rfl,f3⟩:=zbJ h3 (Light.part Tryz.underlying77 (by subst hx;exact hz) (j:=3) rfl rfl);exact ⟨(q0,q1,q2,q3),rfl,rfl,rfl,rfl,f0,f1,f2,f3⟩) (of_decide_eq_true (by kernel_rfl)) h hli
 refine ⟨ps,⟨a,c,rfl,h1,fun q=>?_⟩,h2,fun q hq=>?_⟩
 ·obtain ⟨g,o,ha,hg,hc⟩:=h3 q;refine ⟨g,o,ha,hg,fun j x hx=>?_⟩;obtain ⟨f,⟨p0,p1,p2,p3,_⟩,hcell⟩:=hc j x hx;exact ⟨(hcell 0 (by omega)).trans p0,(hcell 1 (by omega)).trans p1,(hcell 2 (by omega)).trans p2,(hcell 3 (by omega)).trans p3⟩
 ·obtain ⟨f,_,_,_,_,p⟩:=h4 q hq;exact p
theorem zyJ {r:Reach} {b0:Nat} {v:Value} {d:DataW H} {p:List MemPlace} (hv:Value.okWide Tryz.prog w r b0 31 v) (h:DataW.Trod enc Tryz.prog w base spare held 31 v d p) (hli:Light 31 d) :
  ∃ ss:List SrcT,Srcs w v ss/\ss.length<=140737488355328/\∀ s∈ss,FitS s:=by
 obtain ⟨a0,l0,c0,rfl⟩:=okWide_slice Tryz.underlying31 hv;obtain ⟨fuel,hf⟩:=h;simp only[Value.cells] at hf;obtain ⟨ss,a,c,hv2,h1,h2,h3,h4⟩:=zlF (α:=SrcT) (fun s f=>(∃ vA vE vF,f 0=some (.string (bs s.key))/\f 1=some (.string (bs s.type))/\f 2=some vA/\f 3=some vE/\f 4=some vF/\Perss w vA s.author/\Perss w vE s.editor/\Prs w vF s.fields)/\FitS s) Tryz.underlying31 Tryz.cellsSrc (by omega) (by
  intro n cs z hl ht hz;obtain ⟨y0,y1,y2,y3,y4,n',hx,h0,h1,h2,h3,h4⟩:=zp5 Tryz.underlying50 ht
  match cs,hl with
  | [v0,v1,v2,v3,v4],_ =>
   simp only[Tryz.cellsStr,Tryz.cellsLp,Tryz.cellsLf,List.drop_succ_cons,List.drop_zero,List.take_succ_cons,List.take_zero] at h0 h1 h2 h3 h4;obtain ⟨q0,rfl,f0⟩:=zbJ h0 (Light.part Tryz.underlying50 (by rw[hx] at hz;exact hz) (j:=0) rfl rfl);obtain ⟨q1,rfl,f1⟩:=zbJ h1 (Light.part Tryz.underlying50 (by rw[hx] at hz;exact hz) (j:=1) rfl rfl);obtain ⟨q2,p2,l2,f2⟩:=znG h2 (Light.part Tryz.underlying50 (by rw[hx] at hz;exact hz) (j:=2) rfl rfl);obtain ⟨q3,p3,l3,f3⟩:=znG h3 (Light.part Tryz.underlying50 (by rw[hx] at hz;exact hz) (j:=3) rfl rfl);obtain ⟨q4,p4,l4,f4⟩:=znA h4 (Light.part Tryz.underlying50 (by rw[hx] at hz;exact hz) (j:=4) rfl rfl);refine ⟨⟨q0,q1,q2,q3,q4⟩,⟨v2,v3,v4,rfl,rfl,rfl,rfl,rfl,p2,p3,p4⟩,?_⟩;exact ⟨f0,f1,l2,l3,l4,f4,fun q hq=>(List.mem_append.1 hq).elim (fun h=>f2 q h) (fun h=>f3 q h)⟩) (of_decide_eq_true (by kernel_rfl)) hf hli
 refine ⟨ss,⟨a,c,hv2,h1,fun q=>?_⟩,h2,fun s hs=>?_⟩
 ·obtain ⟨g,o,ha,hg,hc⟩:=h3 q;refine ⟨g,o,ha,hg,fun j x hx=>?_⟩;obtain ⟨f,⟨⟨vA,vE,vF,p0,p1,p2,p3,p4,p5⟩,_⟩,hcell⟩:=hc j x hx;exact ⟨vA,vE,vF,(hcell 0 (by omega)).trans p0,(hcell 1 (by omega)).trans p1,(hcell 2 (by omega)).trans p2,(hcell 3 (by omega)).trans p3,(hcell 4 (by omega)).trans p4,p5⟩
 ·obtain ⟨f,_,p⟩:=h4 s hs;exact p
end
end Go.Proofs.YtmcoomlkbgiboaaGreatDoor
namespace Go.Proofs.YtmcoomlkbgiboaaGreatDoor
open Go.RowKit
theorem zh4 (a b:Bs):Lib.byteCells (a ++ b)=Lib.byteCells a ++ Lib.byteCells b:=by simp [Lib.byteCells]
end Go.Proofs.YtmcoomlkbgiboaaGreatDoor
