/- The operations of a drawn region, one by one. No condition. -/
import Derived.Test.YtmcoomlkbgiboaaGreatDoorU30
import Derived.Test.YtmcoomlkbgiboaaGreatDoorU25
import Derived.Test.YtmcoomlkbgiboaaGreatDoorU24
import Derived.Test.YtmcoomlkbgiboaaGreatDoorU10
import Derived.Test.YtmcoomlkbgiboaaGreatDoorU21
import Derived.Test.YtmcoomlkbgiboaaGreatDoorU09
import Derived.Test.YtmcoomlkbgiboaaGreatDoorU17
import Derived.Test.YtmcoomlkbgiboaaGreatDoorU28
import Derived.Test.YtmcoomlkbgiboaaGreatDoorU20
import Derived.Test.YtmcoomlkbgiboaaGreatDoorU22
set_option linter.all false
set_option maxRecDepth 100000
set_option maxHeartbeats 6400000
namespace Go.Proofs.YtmcoomlkbgiboaaGreatDoor
open Go.RowKit
section
variable {P:Program} {ops:Array Oper} {Q:Exit->Act->World->Prop}
theorem zaN {i:Nat} {op:Op} {d:Option Nat} (h:OpAt ops i op d):zg8 ops i=d:=by
 obtain ⟨o,ho,-,-,hd⟩:=h;unfold zg8;rw[ho];exact hd
theorem zaY {i:Nat} {op:Op} {d:Option Nat} {a:Act} {w w':World} {v:Value} {K:Act->World->Prop} (h:OpAt ops i op d) (hr:∀ o:Oper,o.op=op->(execOp a.eval o).run P w=.ok (.value v) w') (hk:K (a.put (zg8 ops i) v) w'):wpOp P ops Q i K a w:=by
 rw[zaN h] at hk;obtain ⟨o,ho,hop,hg,hd⟩:=h;exact zaS ho hg (hr o hop) (by rw[hd];exact hk)
theorem zdJ {i:Nat} {op:Op} {d:Option Nat} {a:Act} {w w':World} {f:FuncId} {args:Array Value} {K:Act->World->Prop} (h:OpAt ops i op d) (hr:∀ o:Oper,o.op=op->(execOp a.eval o).run P w=.ok (.enter f args) w')
  (hc:Calls P f args w' fun e w''=>∃ v,e=.returned v/\K (a.put (zg8 ops i) v) w''):wpOp P ops Q i K a w:=by
 rw[zaN h] at hc;obtain ⟨o,ho,hop,hg,hd⟩:=h;exact ze8 ho hg (hr o hop) (by rw[hd];exact hc)
theorem zdS {i:Nat} {op:Op} {d:Option Nat} {a:Act} {w:World} {K:Act->World->Prop} (h:OpAt ops i op d) (hl:∀ o:Oper,o.op=op->o.guard=none->o.dst=zg8 ops i->wpList P ops (QK Q K) [o] a w):wpOp P ops Q i K a w:=by
 have e:=zaN h;obtain ⟨o,ho,hop,hg,hd⟩:=h;exact zlY ho (hl o hop hg (by rw[hd,e]))
theorem zeT {i:Nat} {x:Operand} {d:Option Nat} {a:Act} {w:World} {K:Act->World->Prop} (h:OpAt ops i (.move x) d) {v:Value} (hx:a.eval x=v) (hk:K (a.put (zg8 ops i) v) w):wpOp P ops Q i K a w :=
 zaY h (fun o ho=>by simp only[execOp,ho,hx];simp [go_sem]) hk
theorem zz1 {i:Nat} {x:Operand} {d:Option Nat} {a:Act} {w:World} {K:Act->World->Prop} (h:OpAt ops i (.assign x) d) {v:Value} (hx:a.eval x=v) (hk:K (a.put (zg8 ops i) v) w):wpOp P ops Q i K a w :=
 zaY h (fun o ho=>by simp only[execOp,ho,hx];simp [go_sem]) hk
end
theorem Tryz.infoKy:(Tryz.prog.info? 84).map (fun i=>(i.zero,i.size,i.bytes))=some (some (.agg #[.string ⟨#[]⟩,.int .i64 0,.string ⟨#[]⟩,.string ⟨#[]⟩]),4,56):=by kernel_rfl
theorem Tryz.sizeKy:(Tryz.prog.info? 84).map (·.size)=some 4:=by kernel_rfl
theorem Tryz.sizeS5:(Tryz.prog.info? 50).map (·.size)=some 5:=by kernel_rfl
def zjI (s:SrcT) (vA vE vF:Value) (I:Nat) (t au:Bs) (yr:Int) (n0:Nat):Nat->(Nat->Value)->World->Prop
 | 0,V,_=>V 0=.agg #[.string (bs s.key),.string (bs s.type),vA,vE,vF]
 | 1,V,_=>V 1=.string (bs au)
 | 2,V,_=>V 2=.agg #[.string (bs s.key),.string (bs s.type),vA,vE,vF]
 | 3,V,_=>V 3=.int .i64 yr
 | 4,V,_=>V 4=.string (bs t)
 | 5,V,_=>V 5=.pointer (some ⟨I,0,none⟩)
 | 6,V,_=>V 6=.string (bs s.key)
 | 7,V,_=>V 7=.agg #[.string (bs au),.int .i64 yr,.string (bs t),.string (bs s.key)]
 | 8,V,w=>∃ Z:Nat,V 8=.pointer (some ⟨Z,0,none⟩)/\n0<=Z/\Blk w Z 84 #[.string (bs []),.int .i64 0,.string (bs []),.string (bs [])]
 | _,_,_=>True
theorem zB0 {ops:Array Oper} {id:Nat} {a:Act} {wr:World} {Q:Exit->Act->World->Prop} (s:SrcT) (vA vE vF:Value) (I:Nat) (t au:Bs) (yr:Int)
  (hc:zzZ ops 10 9 #[[0,1,2,3,4,5,6,7,8]] #[[],[0],[],[2],[],[],[5],[1,3,4,6],[],[7,8]] 73=true)
  (p0:OpAt ops 0 (.load 50 (.tmp 11)) (some 36))
  (p1:OpAt ops 1 (.call { callee:=.value (.func 36),args:=#[.tmp 36],argTypes:=#[50] }) (some 37))
  (p2:OpAt ops 2 (.load 50 (.tmp 11)) (some 38))
  (p3:OpAt ops 3 (.call { callee:=.value (.func 37),args:=#[.tmp 38],argTypes:=#[50] }) (some 39))
  (p4:OpAt ops 4 (.move (.tmp 12)) (some 40))
  (p5:OpAt ops 5 (.fieldAddr 50 (.tmp 11) 0) (some 41))
  (p6:OpAt ops 6 (.load 9 (.tmp 41)) (some 42))
  (p7:OpAt ops 7 (.build 84 #[(0,.tmp 37),(1,.tmp 39),(2,.tmp 40),(3,.tmp 42)]) (some 43))
  (p8:OpAt ops 8 (.alloc 84) (some 14))
  (p9:OpAt ops 9 (.store 84 (.tmp 14) (.tmp 43)) none)
  (hz:73<=a.tmps.size) (h11:a.eval (.tmp 11)=.pointer (some ⟨I,0,none⟩)) (h12:a.eval (.tmp 12)=.string (bs t))
  (HB:Hid (Blk wr I 50 #[.string (bs s.key),.string (bs s.type),vA,vE,vF])) (HA:Hid (∀ w',Kept wr w'->Calls Tryz.prog 36 #[.agg #[.string (bs s.key),.string (bs s.type),vA,vE,vF]] w' fun e w''=>e=.returned (.string (bs au))/\Kept w' w'')) (HY:Hid (∀ w',Kept wr w'->Calls Tryz.prog 37 #[.agg #[.string (bs s.key),.string (bs s.type),vA,vE,vF]] w' fun e w''=>e=.returned (.int .i64 yr)/\Kept w' w''))
  (hend:∀ (V:Nat->Value) w' TB,V 8=.pointer (some ⟨TB,0,none⟩)->wr.heap.size<=TB->Blk w' TB 84 #[.string (bs au),.int .i64 yr,.string (bs t),.string (bs s.key)]->Kept wr w'->Q .normal ((((((((((a.put (some 36) (V 0)).put (some 37) (V 1)).put (some 38) (V 2)).put (some 39) (V 3)).put (some 40) (V 4)).put (some 41) (V 5)).put (some 42) (V 6)).put (some 43) (V 7)).put (some 14) (V 8)).put none (V 9)) w') :
  (Code.region id ops true).wp Tryz.prog Q a wr:=by
 have e0:=zaN p0;have e1:=zaN p1;have e2:=zaN p2;have e3:=zaN p3;have e4:=zaN p4;have e5:=zaN p5;have e6:=zaN p6;have e7:=zaN p7;have e8:=zaN p8;have e9:=zaN p9;have hout:∀ t,(t=11\/t=12)->∀ j,j<10->zg8 ops j≠some t:=by
  intro t ht j hj;obtain rfl|rfl|rfl|rfl|rfl|rfl|rfl|rfl|rfl|rfl:j=0\/j=1\/j=2\/j=3\/j=4\/j=5\/j=6\/j=7\/j=8\/j=9:=(by omega)
  all_goals simp [e0,e1,e2,e3,e4,e5,e6,e7,e8,e9]
  all_goals omega
 refine zcS 10 9 73 _ _ hc (by rfl) hz (zjI s vA vE vF I t au yr wr.heap.size) (fun w=>Kept wr w) Kept
  (fun V w=>∃ TB:Nat,V 8=.pointer (some ⟨TB,0,none⟩)/\wr.heap.size<=TB/\Blk w TB 84 #[.string (bs au),.int .i64 yr,.string (bs t),.string (bs s.key)]/\Kept wr w) ?_ ?_ ?_ ?_ ?_ ?_ ?_ ?_ ?_
 ·intro j hj V V' w hV h;have hjj:=hV j (.inl rfl);obtain rfl|rfl|rfl|rfl|rfl|rfl|rfl|rfl|rfl|rfl:j=0\/j=1\/j=2\/j=3\/j=4\/j=5\/j=6\/j=7\/j=8\/j=9:=(by omega)
  all_goals (simp only[zjI] at h ⊢;try (rw[<- hjj];exact h))
 ·intro V V' w hV h;rw[<- hV 8 (.inr (by simp))];exact h
 ·intro j hj hne V w w' h k;obtain rfl|rfl|rfl|rfl|rfl|rfl|rfl|rfl|rfl:j=0\/j=1\/j=2\/j=3\/j=4\/j=5\/j=6\/j=7\/j=8:=(by omega)
  ·exact h
  ·exact h
  ·exact h
  ·exact h
  ·exact h
  ·exact h
  ·exact h
  ·exact h
  ·obtain ⟨Z,h1,h2,h3⟩:=h;exact ⟨Z,h1,h2,h3.kept k⟩
 ·intro j hj hne hni;exfalso;apply hni;have:j<9:=(by omega);simp only[Array.getD,List.size_toArray];obtain rfl|rfl|rfl|rfl|rfl|rfl|rfl|rfl|rfl:j=0\/j=1\/j=2\/j=3\/j=4\/j=5\/j=6\/j=7\/j=8:=(by omega)
  all_goals simp
 ·exact zaB wr 1
 ·intro i hi hne V a' w' hG hF hR hS K hK;have o11:=(hR 11 (hout 11 (by omega))).trans h11;have o12:=(hR 12 (hout 12 (by omega))).trans h12;have hb:=HB.out.kept hG;have c0:w'.cell? ⟨I,0,none⟩=some (.string (bs s.key)):=hb.cell 0 _ rfl;have same:∀ v,zjI s vA vE vF I t au yr wr.heap.size i (upd V i v) w'->K (a'.put (zg8 ops i) v) w':=fun v h=>hK v w' (Kept.refl _) hG h;obtain rfl|rfl|rfl|rfl|rfl|rfl|rfl|rfl|rfl:i=0\/i=1\/i=2\/i=3\/i=4\/i=5\/i=6\/i=7\/i=8:=(by omega)
  ·refine zdS p0 fun o1 ho hg' hd'=>?_;refine zaW hg' 50 (.tmp 11) ho _ #[.string (bs s.key),.string (bs s.type),vA,vE,vF] o11 hb _ Tryz.underlying50 rfl Tryz.sizeS5 ?_;rw[hd'];exact same _ (zaR _ _ _)
  ·have z0:=((hF 0 (by simp)).2 _ e0).trans (hF 0 (by simp)).1;refine zdJ p1 (f:=36) (args:=#[.agg #[.string (bs s.key),.string (bs s.type),vA,vE,vF]]) (w':=w') (fun o1 ho=>?_) ((HA.out w' hG).mono fun e w'' ⟨he,hk⟩=>⟨_,he,hK _ w'' hk (hG.trans hk) (zaR _ _ _)⟩);simp only[execOp,ho,resolve,List.map_toArray,List.map_cons,List.map_nil,z0];simp [go_sem]
  ·refine zdS p2 fun o1 ho hg' hd'=>?_;refine zaW hg' 50 (.tmp 11) ho _ #[.string (bs s.key),.string (bs s.type),vA,vE,vF] o11 hb _ Tryz.underlying50 rfl Tryz.sizeS5 ?_;rw[hd'];exact same _ (zaR _ _ _)
  ·have z2:=((hF 2 (by simp)).2 _ e2).trans (hF 2 (by simp)).1;refine zdJ p3 (f:=37) (args:=#[.agg #[.string (bs s.key),.string (bs s.type),vA,vE,vF]]) (w':=w') (fun o1 ho=>?_) ((HY.out w' hG).mono fun e w'' ⟨he,hk⟩=>⟨_,he,hK _ w'' hk (hG.trans hk) (zaR _ _ _)⟩);simp only[execOp,ho,resolve,List.map_toArray,List.map_cons,List.map_nil,z2];simp [go_sem]
  ·exact zeT p4 o12 (same _ (zaR _ _ _))
  ·refine zaY p5 (v:=.pointer (some ⟨I,0,none⟩)) (w':=w') (fun o1 ho=>?_) (same _ (zaR _ _ _));simp only[execOp,ho,o11];simp [go_sem,Tryz.underlying50]
  ·have z5:=((hF 5 (by simp)).2 _ e5).trans (hF 5 (by simp)).1;refine zaY p6 (v:=.string (bs s.key)) (w':=w') (fun o1 ho=>?_) (same _ (zaR _ _ _));simp only[execOp,ho,z5];simp [go_sem,Tryz.underlying9,c0]
  ·have z1:=((hF 1 (by simp)).2 _ e1).trans (hF 1 (by simp)).1;have z3:=((hF 3 (by simp)).2 _ e3).trans (hF 3 (by simp)).1;have z4:=((hF 4 (by simp)).2 _ e4).trans (hF 4 (by simp)).1;have z6:=((hF 6 (by simp)).2 _ e6).trans (hF 6 (by simp)).1;refine zaY p7 (v:=.agg #[.string (bs au),.int .i64 yr,.string (bs t),.string (bs s.key)]) (w':=w') (fun o1 ho=>?_) (same _ (zaR _ _ _));have y37:=z1;simp only[Act.eval,Array.getD_eq_getD_getElem?] at y37;have y39:=z3;simp only[Act.eval,Array.getD_eq_getD_getElem?] at y39;have y40:=z4;simp only[Act.eval,Array.getD_eq_getD_getElem?] at y40;have y42:=z6;simp only[Act.eval,Array.getD_eq_getD_getElem?] at y42;simp only[execOp,ho];simp [go_sem,y37,y39,y40,y42]
  ·obtain ⟨i0,hi,hz0,hz1,hz2⟩:=info_parts Tryz.infoKy;refine zaY p8 (v:=.pointer (some ⟨w'.heap.size,0,none⟩)) (w':=w'.alloc (.cells #[.string (bs []),.int .i64 0,.string (bs []),.string (bs [])] 84)) (fun o1 ho=>?_) (hK _ _ (zaA _ _) (hG.trans (zaA _ _)) ⟨w'.heap.size,zaR _ _ _,hG.size,Blk.new _ _ _⟩);simp only[execOp,ho];simp [go_sem,hi,hz0]
 ·intro V a' w' hG hF hR K hK;obtain ⟨⟨Z,r1,r2,r3⟩,r4⟩:=hF 8 (by simp);have z1:=(r4 _ e8).trans r1;have z0:=((hF 7 (by simp)).2 _ e7).trans (hF 7 (by simp)).1;refine zdS p9 fun o1 ho hg' hd'=>?_;refine zbA hg' 84 (.tmp 14) (.tmp 43) ho Z #[.string (bs []),.int .i64 0,.string (bs []),.string (bs [])] #[.string (bs au),.int .i64 yr,.string (bs t),.string (bs s.key)] z1 z0 r3 rfl Tryz.sizeKy (by simp [Value.oneCell']) ?_;intro w2 hb2 ho2;rw[hd'];exact hK _ _ ⟨Z,(zrN (by omega)).trans r1,r2,hb2,hG.trans' (ho2.below hG.size (fun i e=>by rw[e];exact r2))⟩
 ·intro i hi hne hni;exfalso;apply hni;have:i<9:=(by omega);obtain rfl|rfl|rfl|rfl|rfl|rfl|rfl|rfl|rfl:i=0\/i=1\/i=2\/i=3\/i=4\/i=5\/i=6\/i=7\/i=8:=(by omega)
  all_goals simp
 ·intro V w' ⟨TB,g1,g2,g3,g4⟩ _;have:=hend V w' TB g1 g2 g3 g4;simp only[zdF,e0,e1,e2,e3,e4,e5,e6,e7,e8,e9];exact this
theorem Perss.freshB {w:World} {v:Value} {ps:List P4} {B:Nat} (h:Perss w v ps) (hf:Fresh B v):InB (fun g=>B<=g) v ps.length:=fun q g hg=>by
 obtain ⟨a,c,rfl,hc,h3⟩:=h;obtain ⟨g',o,rfl,_⟩:=h3 q;have:g'=g:=(by simpa [Value.ownBlock] using hg);subst this;exact hf g' o _ _ rfl q
theorem Prs.freshB {w:World} {v:Value} {ps:List Pr} {B:Nat} (h:Prs w v ps) (hf:Fresh B v):InB (fun g=>B<=g) v ps.length:=fun q g hg=>by
 obtain ⟨a,c,rfl,hc,h3⟩:=h;obtain ⟨g',o,rfl,_⟩:=h3 q;have:g'=g:=(by simpa [Value.ownBlock] using hg);subst this;exact hf g' o _ _ rfl q
theorem Tryz.sizeSo:(Tryz.prog.info? 50).map (fun x=>x.size)=some 5:=by kernel_rfl
def CpyS (s:SrcT) (w:World) (e:Ending) (w':World):Prop:=∃ vA vE vF,e=.returned (zhB s.key s.type vA vE vF)/\SrcL (fun g=>w.heap.size<=g) w' vA vE vF s/\Kept w w'
theorem zv4 (vA vE vF:Value) (s:SrcT) (w:World) (hA:Perss w vA s.author) (hE:Perss w vE s.editor) (hF:Prs w vF s.fields) (lA:s.author.length<=1000) (lE:s.editor.length<=1000) (lF:s.fields.length<=1000) :
  Calls Tryz.prog 43 #[zhB s.key s.type vA vE vF] w (CpyS s w):=by
 have HCA:=Hd (fun w' (k:Kept w w')=>zgR vA s.author w' (hA.kept k) (by omega));have HCE:=Hd (fun w' (k:Kept w w')=>zgR vE s.editor w' (hE.kept k) (by omega));have HCF:=Hd (fun w' (k:Kept w w')=>znD vF s.fields w' (hF.kept k) (by omega));unfold CloneP at HCA HCE;unfold CloneF at HCF;obtain ⟨aA,cA,rfl,_⟩:=hA.shape;obtain ⟨aE,cE,rfl,_⟩:=hE.shape;obtain ⟨aF,cF,rfl,_⟩:=(show ∃ a c,vF=.slice a s.fields.length c/\s.fields.length<=c by obtain ⟨a,c,e,l,_⟩:=hF;exact ⟨a,c,e,l⟩);have HFIN:Hid (∀ vA vE vF w',SrcL (fun g=>w.heap.size<=g) w' vA vE vF s->Kept w w'->CpyS s w (.returned (zhB s.key s.type vA vE vF)) w'):=fun vA vE vF w' h1 h2=>⟨vA,vE,vF,rfl,h1,h2⟩;clear hA hE hF;obtain ⟨skey,styp,au,ed,fs⟩:=s;simp only at HCA HCE HCF lA lE lF;have hb1:=(Blk.new w 50 #[.string (bs skey),.string (bs styp),.slice aA au.length cA,.slice aE ed.length cE,.slice aF fs.length cF]).alloc (.cells #[.string (bs []),.string (bs []),.slice none 0 0,.slice none 0 0,.slice none 0 0] 50);have hr1:=Blk.new (w.alloc (.cells #[.string (bs skey),.string (bs styp),.slice aA au.length cA,.slice aE ed.length cE,.slice aF fs.length cF] 50)) 50 #[.string (bs []),.string (bs []),.slice none 0 0,.slice none 0 0,.slice none 0 0];have HK0:=Hd ((zaA w (.cells #[.string (bs skey),.string (bs styp),.slice aA au.length cA,.slice aE ed.length cE,.slice aF fs.length cF] 50)).trans (zaA _ (.cells #[.string (bs []),.string (bs []),.slice none 0 0,.slice none 0 0,.slice none 0 0] 50)));obtain ⟨B,HBB⟩:∃ B,Hid (w.heap.size=B):=⟨_,rfl⟩;simp only[World.size_alloc,HBB.out] at hb1 hr1;have HB1:=Hd hb1;have HR1:=Hd hr1;have hwB:w.heap.size<=B:=(by rw[HBB.out];exact Nat.le_refl _);clear hb1 hr1;generalize CpyS ⟨skey,styp,au,ed,fs⟩ w=P at *;go_enter Tryz.func43,Tryz.ntmps43;go_upto_region 1 with fail;rw[HBB.out];generalize World.alloc (World.alloc w _) _=w0 at *;have hB0:B+1<w0.heap.size:=HR1.out.lt;have c2:=HB1.out.cell 2 _ rfl;have cz:=HB1.out.lt;go_wp2_with fail;refine (HCA.out w0 HK0.out).mono ?_;rintro e w1 ⟨vA1,rfl,p1,f1,k1⟩;have HPA:=Hd (p1.sam (S:=fun g=>w0.heap.size<=g) (p1.freshB f1) (fun _ _ _=>rfl));have HIA:Hid (InB (fun g=>w0.heap.size<=g) vA1 au.length):=p1.freshB f1;obtain ⟨aA1,cA1,rfl,_⟩:=p1.shape;have hb:=HB1.out.kept k1;have c2':=hb.cell 2 _ rfl;have fr2:=hb.free 2;have cz':=hb.lt;have HB2:Hid (Blk (w1.setCell ⟨B,2,none⟩ (.slice aA1 au.length cA1)) B 50 #[.string (bs skey),.string (bs styp),.slice aA1 au.length cA1,.slice aE ed.length cE,.slice aF fs.length cF]):=hb.set 2 _;have ho2:=Only.setCell (w:=w1) B 2 (.slice aA1 au.length cA1);have HR2:=Hd ((HR1.out.kept k1).onl ho2 (by omega));have HK2:=Hd ((HK0.out.trans k1).trans' (ho2.below (HK0.out.trans k1).size (fun i e=>by rw[e];exact hwB)));have HPA2:=Hd (HPA.out.sam HIA.out (Sam.only ho2 (fun g _ hs q=>by omega)));have hz2:w0.heap.size<=(w1.setCell ⟨B,2,none⟩ (.slice aA1 au.length cA1)).heap.size:=Nat.le_trans k1.size ho2.size;clear p1 f1 k1 hb ho2 HPA HCA HB1 HR1 c2;go_upto_region 2 with fail;generalize w1.setCell ⟨B,2,none⟩ (.slice aA1 au.length cA1)=w2 at *;clear c2' fr2 cz' cz;have c3:=HB2.out.cell 3 _ rfl;have cz:=HB2.out.lt;go_wp2_with fail;refine (HCE.out w2 HK2.out).mono ?_;rintro e w3 ⟨vE1,rfl,p1,f1,k1⟩;have HPB:=Hd (p1.sam (S:=fun g=>w2.heap.size<=g) (p1.freshB f1) (fun _ _ _=>rfl));have HIB:Hid (InB (fun g=>w2.heap.size<=g) vE1 ed.length):=p1.freshB f1;obtain ⟨aE1,cE1,rfl,_⟩:=p1.shape;have hb:=HB2.out.kept k1;have c3':=hb.cell 3 _ rfl;have fr3:=hb.free 3;have cz':=hb.lt;have HB4:Hid (Blk (w3.setCell ⟨B,3,none⟩ (.slice aE1 ed.length cE1)) B 50 #[.string (bs skey),.string (bs styp),.slice aA1 au.length cA1,.slice aE1 ed.length cE1,.slice aF fs.length cF]):=hb.set 3 _;have ho2:=Only.setCell (w:=w3) B 3 (.slice aE1 ed.length cE1);have HR4:=Hd ((HR2.out.kept k1).onl ho2 (by omega));have HK4:=Hd ((HK2.out.trans k1).trans' (ho2.below (HK2.out.trans k1).size (fun i e=>by rw[e];exact hwB)));have HPA4:=Hd (((HPA2.out.kept k1).sam HIA.out (Sam.only ho2 (fun g _ hs q=>by omega))));have HPB4:=Hd (HPB.out.sam HIB.out (Sam.only ho2 (fun g _ hs q=>by omega)));have hz4:w2.heap.size<=(w3.setCell ⟨B,3,none⟩ (.slice aE1 ed.length cE1)).heap.size:=Nat.le_trans k1.size ho2.size;clear p1 f1 k1 hb ho2 HPB HPA2 HCE HB2 HR2 c3;go_upto_region 3 with fail;generalize w3.setCell ⟨B,3,none⟩ (.slice aE1 ed.length cE1)=w4 at *;clear c3' fr3 cz' cz;have c4:=HB4.out.cell 4 _ rfl;have cz:=HB4.out.lt;go_wp2_with fail;refine (HCF.out w4 HK4.out).mono ?_;rintro e w5 ⟨vF1,rfl,p1,f1,k1⟩;have HPC:=Hd (p1.sam (S:=fun g=>w4.heap.size<=g) (p1.freshB f1) (fun _ _ _=>rfl));have HIC:Hid (InB (fun g=>w4.heap.size<=g) vF1 fs.length):=p1.freshB f1;obtain ⟨aF1,cF1,rfl,_⟩:=(show ∃ a c,vF1=.slice a fs.length c/\fs.length<=c by obtain ⟨a,c,e,l,_⟩:=p1;exact ⟨a,c,e,l⟩);have hb:=HB4.out.kept k1;have c4':=hb.cell 4 _ rfl;have fr4:=hb.free 4;have cz':=hb.lt;have HB6:Hid (Blk (w5.setCell ⟨B,4,none⟩ (.slice aF1 fs.length cF1)) B 50 #[.string (bs skey),.string (bs styp),.slice aA1 au.length cA1,.slice aE1 ed.length cE1,.slice aF1 fs.length cF1]):=hb.set 4 _;have ho2:=Only.setCell (w:=w5) B 4 (.slice aF1 fs.length cF1);have HR6:=Hd ((HR4.out.kept k1).onl ho2 (by omega));have HK6:=Hd ((HK4.out.trans k1).trans' (ho2.below (HK4.out.trans k1).size (fun i e=>by rw[e];exact hwB)));have HPA6:=Hd (((HPA4.out.kept k1).sam HIA.out (Sam.only ho2 (fun g _ hs q=>by omega))));have HPB6:=Hd (((HPB4.out.kept k1).sam HIB.out (Sam.only ho2 (fun g _ hs q=>by omega))));have HPC6:=Hd (HPC.out.sam HIC.out (Sam.only ho2 (fun g _ hs q=>by omega)));clear p1 f1 k1 hb ho2 HPC HPA4 HPB4 HCF HB4 HR4 c4;go_upto_region 4 with fail;generalize w5.setCell ⟨B,4,none⟩ (.slice aF1 fs.length cF1)=w6 at *;clear c4' fr4 cz' cz;have cz:=HB6.out.lt;go_wp2_with (first
  | (refine zaW (by rfl) 50 (.tmp 1) (by rfl) B _ (by rfl) HB6.out _ Tryz.underlying50 rfl Tryz.sizeSo ?_)
  | (refine zbA rfl 50 (.tmp 2) (.tmp 15) (by rfl) (B+1) _ #[.string (bs skey),.string (bs styp),.slice aA1 au.length cA1,.slice aE1 ed.length cE1,.slice aF1 fs.length cF1] (by rfl) (by rfl) HR6.out rfl Tryz.sizeSo (by simp only[List.all_toArray,List.all_cons,List.all_nil];rfl) ?_;intro w9 hb9 ho9;have r0:w9.cell? ⟨B+1,0,none⟩=some (.string (bs skey)):=hb9.cell 0 _ rfl;have r1:w9.cell? ⟨B+1,1,none⟩=some (.string (bs styp)):=hb9.cell 1 _ rfl;have r2:w9.cell? ⟨B+1,2,none⟩=some (.slice aA1 au.length cA1):=hb9.cell 2 _ rfl;have r3:w9.cell? ⟨B+1,3,none⟩=some (.slice aE1 ed.length cE1):=hb9.cell 3 _ rfl;have r4:w9.cell? ⟨B+1,4,none⟩=some (.slice aF1 fs.length cF1):=hb9.cell 4 _ rfl;have rz:=hb9.lt;have HK9:=Hd (HK6.out.trans' (ho9.below HK6.out.size (fun i e=>by rw[e];omega)));have HPA9:=Hd (HPA6.out.sam HIA.out (Sam.only ho9 (fun g _ hs q=>by omega)));have HPB9:=Hd (HPB6.out.sam HIB.out (Sam.only ho9 (fun g _ hs q=>by omega)));have HPC9:=Hd (HPC6.out.sam HIC.out (Sam.only ho9 (fun g _ hs q=>by omega)));clear hb9 ho9))
 have hw0:w.heap.size<=w0.heap.size:=HK0.out.size;have h:=HFIN.out (.slice aA1 au.length cA1) (.slice aE1 ed.length cE1) (.slice aF1 fs.length cF1) w9 ⟨⟨HPA9.out,HIA.out.mono fun g _ _ q=>by omega⟩,⟨HPB9.out,HIB.out.mono fun g _ _ q=>by omega⟩,⟨HPC9.out,HIC.out.mono fun g _ _ q=>by omega⟩⟩ HK9.out;refine bodyPost_ret (v:=zhB skey styp (.slice aA1 au.length cA1) (.slice aE1 ed.length cE1) (.slice aF1 fs.length cF1)) ?_ rfl h;simp [results,Tryz.results43,go_sem,r0,r1,r2,r3,r4,rz,zhB]
theorem zz2:∀ k:Nat,k<26->zdE [97+(k:Int),65+(k:Int)]=[UInt8.ofNat (97+k),UInt8.ofNat (65+k)]:=by decide +kernel
theorem Tryz.sizeCo:(Tryz.prog.info? 88).map (fun x=>x.size)=some 3:=by kernel_rfl
theorem zf3 (w:World) {ops:Array Oper} {rest:List Oper} {o:Oper} {a:Act} {Q:Exit->Act->World->Prop} (hgd:o.guard=none) (s x:Operand)
  (ho:o.op=.call { callee:=.builtin .append,args:=#[s,x],argTypes:=#[29,29] })
  (base:Nat) (v:Value) (ps:List Bs) (hs:a.eval s=v) (hown:w.ownsRow base 9 1 v ps.length (zaH ps)) (q:Bs) (g:Nat) (hx:a.eval x=.slice (some ⟨g,0,none⟩) 1 1)
  (hb:Blk w g 9 #[.string (bs q)]) (hl:ps.length<=1000000) (hbase:base<=w.heap.size)
  (h:∀ v' w',w'.ownsRow base 9 1 v' (ps ++ [q]).length (zaH (ps ++ [q]))->w.grownBy w' v.ownBlock->wpList Tryz.prog ops Q rest (a.put o.dst v') w') :
  wpList Tryz.prog ops Q (o :: rest) a w:=by
 obtain ⟨i0,hi,hz0,hz1,hz2⟩:=info_parts Tryz.infoStr;refine wpList_append_lies w hgd s x 29 ho base 9 i0 (.string ⟨#[]⟩) 1 16 Tryz.underlying29 hi hz0 hz1 hz2 rfl (by decide) v ps.length (zaH ps) hs hown ⟨g,0,none⟩ 1 1 [.string (bs q)] hx rfl (fun j u hu=>?_) (fun u hu=>?_) (by decide) (by unfold maxLen;omega) (by omega) hbase w.heap.size rfl (fun g' cap w' h1 h2 _ _=>h _ w' ?_ h2)
 ·rw[zeI,Nat.zero_add];exact hb.cell j u (by rw[List.getElem?_toArray];exact hu)
 ·simp at hu;subst hu;rfl
 ·rw[List.length_append,show zaH (ps ++ [q])=zaH ps ++ [.string (bs q)] from by simp [zaH]];exact h1
theorem zDP (w:World) (x:Bs):Strs (w.alloc (.cells #[.string (bs x)] 9)) (.slice (some ⟨w.heap.size,0,none⟩) 1 1) [x]:=by
 refine ⟨_,_,rfl,Nat.le_refl _,fun _=>⟨w.heap.size,0,rfl,by simp,fun j q hq=>?_⟩⟩;have hb:=Blk.new w 9 #[.string (bs x)];cases j with
 | zero=>cases hq;exact hb.cell 0 _ rfl
 | succ j=>simp at hq
theorem zB1 (w:World) (x y:Int):(convert 151 9 (.slice (some ⟨w.heap.size,0,none⟩) 2 2)).run Tryz.prog (w.alloc (.cells #[.int .i32 x,.int .i32 y] 21))=.ok (.string (bs (zdE [x,y]))) (w.alloc (.cells #[.int .i32 x,.int .i32 y] 21)):=by
 rw[run_convert_runes_string _ 151 9 21 _ _ _ Tryz.underlying151 Tryz.underlying21 Tryz.underlying9];have hb:=Blk.new w 21 #[.int .i32 x,.int .i32 y];have hl:=run_loadCells_list (P:=Tryz.prog) (w:=w.alloc (.cells #[.int .i32 x,.int .i32 y] 21)) ⟨w.heap.size,0,none⟩ [.int .i32 x,.int .i32 y] (fun j u hu=>by rw[zeI,Nat.zero_add];exact hb.cell j u (by rw[List.getElem?_toArray];exact hu));rw[run_runesToString _ ⟨w.heap.size,0,none⟩ 2 2 [x,y] hl,ziO]
theorem zl5 (all:Bs) (rs:List Bs) (w:World) (hg:Gnd w) (h:(Lib.splitB (bs [44,32]) 0 (Lib.countB (bs all) (bs [44,32])) (bs all)).map (·.data.toList)=rs) (hc:Lib.countB (bs all) (bs [44,32])+1=rs.length) (hl:all.length<=1000000) :
  Calls Tryz.prog 90 #[.string (bs all),.string (bs [44,32])] w fun e w'=>e=.returned (.slice (some ⟨w.heap.size,0,none⟩) rs.length rs.length)/\w'=w.alloc (.cells (zaH rs).toArray 9):=by
 obtain ⟨m,hm⟩:=hg;refine (Tryz.strings_Split (bs all) (bs [44,32]) m w (by simp;omega) hm (by simp)).mono ?_;rintro e w' ⟨rfl,rfl⟩;have e2:(Lib.splitB (bs [44,32]) 0 (Lib.countB (bs all) (bs [44,32])) (bs all))=rs.map bs:=zw8 _ _ h;rw[hc,e2];refine ⟨rfl,?_⟩;rw[List.map_map];rfl
theorem zB2 (p:Pr) (w:World) (hg:Gnd w) (h:zaP 32 (zcD p)=p.1.length) (h1:p.1.length<=10) (h2:p.2.length<=10) :
  Calls Tryz.prog 91 #[.string (bs (zcD p)),.string (bs [32])] w fun e w'=>e=.returned (.tuple #[.string (bs p.1),.string (bs p.2),.bool true])/\∃ n,w'=w.drewN n:=by
 have hl:(zcD p).length=p.1.length+(p.2.length+1):=(by unfold zcD;rw[List.length_append,List.length_cons]);refine (zxG (zcD p) 32 w hg (by omega)).mono ?_;rintro e w' ⟨rfl,hw⟩;refine ⟨?_,hw⟩;rw[h,if_pos (by omega)];have e1:(zcD p).take p.1.length=p.1:=(by unfold zcD;simp);have e2:(zcD p).drop (p.1.length+1)=p.2:=by
  unfold zcD;rw[List.drop_append,List.drop_of_length_le (by omega)];simp
 rw[e1,e2]
theorem zDQ {ps:List Pr} {k:Nat} {q:Pr} (h:ps[k]? = some q):ps.take (k+1)=ps.take k ++ [q]:=by rw[List.take_succ,h];rfl
theorem zFj (lang:Bs):lang=wDe\/lang=wFr\/lang=wEs\/(lang≠wDe/\lang≠wFr/\lang≠wEs):=by
 by_cases h1:lang=wDe
 ·exact .inl h1
 by_cases h2:lang=wFr
 ·exact .inr (.inl h2)
 by_cases h3:lang=wEs
 ·exact .inr (.inr (.inl h3))
 ·exact .inr (.inr (.inr ⟨h1,h2,h3⟩))
def LocP (c:ColT) (w:World) (e:Ending) (w':World):Prop:=∃ vR vO,e=.returned (zAM vR vO c.ignore)/\Col w' vR vO c/\(InB (fun g=>w.heap.size<=g) vR c.ranks.length/\InB (fun g=>w.heap.size<=g) vO c.order.length)/\Kept w w'
theorem zv5 (lang:Bs) (w:World) (hg:Gnd w) (ht:Lib.TabIs Tryz.prog w "internal/strconv.uint64pow10" .u64 Lib.pow10Tab) :
  Calls Tryz.prog 38 #[.string (bs lang)] w (LocP (zw3 lang) w):=by
 have HIT:=Hd (fun (k:Nat) (h:k<10) w' (q:Kept w w')=>zoT (k:Int) w' (by omega) (by omega) (zeO ht q));obtain ⟨B,HB⟩:∃ B,Hid (w.heap.size=B):=⟨_,rfl⟩;have hr:=(Blk.new w 88 #[.slice none 0 0,.slice none 0 0,.string (bs [])]).alloc (.cells #[.slice none 0 0,.slice none 0 0,.string (bs [])] 88);have hc:=Blk.new (w.alloc (.cells #[.slice none 0 0,.slice none 0 0,.string (bs [])] 88)) 88 #[.slice none 0 0,.slice none 0 0,.string (bs [])];have HK0:=Hd ((zaA w (.cells #[.slice none 0 0,.slice none 0 0,.string (bs [])] 88)).trans (zaA _ (.cells #[.slice none 0 0,.slice none 0 0,.string (bs [])] 88)));simp only[World.size_alloc,HB.out] at hc hr;have HRB:=Hd hr;have HC0:Hid (ColSt ((w.alloc (.cells #[.slice none 0 0,.slice none 0 0,.string (bs [])] 88)).alloc (.cells #[.slice none 0 0,.slice none 0 0,.string (bs [])] 88)) (B+1) (B+2) ⟨[],zl0 0,[]⟩):=⟨_,_,hc,World.ownsRow_nil _ _ _ _,World.ownsRow_nil _ _ _ _⟩;clear hr hc;have HFIN:Hid (∀ vR vO w',Col w' vR vO (zw3 lang)->InB (fun g=>w.heap.size<=g) vR (zw3 lang).ranks.length->InB (fun g=>w.heap.size<=g) vO (zw3 lang).order.length->Kept w w'->LocP (zw3 lang) w (.returned (zAM vR vO [])) w'):=fun vR vO w' h1 h2 h3 h4=>⟨vR,vO,rfl,h1,⟨h2,h3⟩,h4⟩;generalize LocP (zw3 lang) w=P at *;have hsz:=HB.out;go_enter Tryz.func38,Tryz.ntmps38;go_wp2_with fail;generalize World.alloc (World.alloc w _) _=w0 at *;have hB0:B+1<w0.heap.size:=(by obtain ⟨vR,vO,h,_⟩:=HC0.out;exact h.lt);go_loopw [13] (fun i wr=>∃ (k:Nat),k<=10/\i=.int .i64 k/\Hid (ColSt wr (B+1) (B+2) ⟨[],zl0 k,[]⟩)/\Hid (Only (fun g=>g=B+1\/B+2<=g) w0 wr)) (fun i _=>10 - (intOf i).toNat)
 case atStart=>exact ⟨0,Nat.zero_le _,rfl,HC0.out,Only.of_kept (Kept.refl w0)⟩
 case round =>
  obtain ⟨k,hk,rfl,HST,HON⟩:=hrel;by_cases hlt:k<10
  ·have hdl:(zl0 k).length<=10:=(by rw[zkU];exact hk);obtain ⟨ds,HDS⟩:∃ ds,Hid (zl0 k=ds):=⟨_,rfl⟩;have HNX:Hid (zl0 (k+1)=ds ++ [[UInt8.ofNat (48+k)]]):=(by rw[<- HDS.out];exact zzN k);rw[HDS.out] at HST hdl;obtain ⟨vR,vO,hb,hR,hO⟩:=HST.out;have HBB:=Hd hb;have HR:=Hd hR;have HO:=Hd hO;have hz:=hb.lt;obtain ⟨aO,cO,rfl,_,_,_⟩:=za1 hO;have c1:wr.drew.cell? ⟨B+1,1,none⟩=some (.slice aO ds.length cO):=hb.cell 1 _ rfl;have hbs:B+2<=wr.heap.size:=(by omega);have HIK:=Hd (HIT.out k hlt);have HKD:Hid (Kept w wr.drew):=Hd ((HK0.out.trans' (HON.out.below HK0.out.size (fun i e=>by omega))).trans (zaB wr 1));rw[zBV k hlt] at HIK;obtain ⟨s,HS⟩:∃ s,Hid ([UInt8.ofNat (48+k)]=s):=⟨_,rfl⟩;rw[HS.out] at HIK HNX;clear hb hR hO HST;go_wp2_with fail
   go_region_law (first
     | (go_simp;go_at_call 89;refine (HIK.out _ HKD.out).mono ?_;rintro e w2 ⟨rfl,hk2⟩;have hk3:=(zaB wr 1).trans hk2;have hka:=hk3.trans (zaA w2 (.cells #[.string (bs s)] 9));have HB2:=Hd (HBB.out.kept hka);have HR2:=Hd (zaU HR.out hka);have HO2:=Hd (zaU HO.out hka);have HK2:=Hd hka;have c2:w2.cell? ⟨B+1,1,none⟩=some (.slice aO ds.length cO):=(HBB.out.kept hk3).cell 1 _ rfl;have z2:=(HBB.out.kept hk3).lt;have c2a:(w2.alloc (.cells #[.string (bs s)] 9)).cell? ⟨B+1,1,none⟩=some (.slice aO ds.length cO):=HB2.out.cell 1 _ rfl;have HN2:=Hd (zDP w2 s);have hb2:B+2<=(w2.alloc (.cells #[.string (bs s)] 9)).heap.size:=Nat.le_trans hbs hka.size;clear hk2 hk3 hka)
     | (refine zj9 _ rfl (.tmp 17) (.tmp 20) rfl (B+2) _ ds (by rfl) HO2.out _ [s] (by rfl) HN2.out (by simp;omega) hb2 ?_;intro v' w3 hown3 hgrow3;have hb3:=(hgrow3.block (B+1) HB2.out.lt (zbZ HO2.out HB2.out (by decide))).trans HB2.out;have f3:w3.frozen? ⟨B+1,1,none⟩=false:=(show Blk w3 (B+1) 88 _ from hb3).free 1;have c3:w3.cell? ⟨B+1,1,none⟩=some (.slice aO ds.length cO):=(show Blk w3 (B+1) 88 _ from hb3).cell 1 _ rfl;have z3:=(show Blk w3 (B+1) 88 _ from hb3).lt;have HG3:=Hd hgrow3;have HO3:=Hd hown3;obtain ⟨a3,c3',rfl,_,_,_⟩:=za1 hown3;clear hgrow3 hown3 hb3))
   all_goals
    have hS:=zoU (c:=⟨[],ds,[]⟩) (ws:=[s]) HB2.out HR2.out HO2.out HO3.out HG3.out;rw[show (ds ++ [s]).length=ds.length+1 from by simp] at hS;have HS1:=Hd hS.1;have HS2:=Hd ((HON.out.trans (Only.of_kept HK2.out)).trans hS.2);clear hS HB2 HR2 HO2 HO3 HG3 HN2 HK2 c1 c2 c2a z2;go_wp2_with fail;go_roundw
    case rel=>exact ⟨k+1,by omega,by go_num,(by rw[HNX.out];exact HS1.out),HS2.out⟩
    case measure=>simp [intOf];omega
  ·obtain rfl:k=10:=(by omega);have HST0:Hid (ColSt wr (B+1) (B+2) ⟨[],zl0 10 ++ zpS (lang == wEs) 0,[]⟩):=HST;obtain ⟨es,HES⟩:∃ es,Hid ((lang == wEs)=es):=⟨_,rfl⟩;rw[HES.out] at HST0;clear HST;go_wp2_with fail;obtain ⟨wo,rfl⟩:∃ wo:World,wo=wr:=⟨_,rfl⟩;go_loopw [24] (fun i wr=>∃ (k:Nat),k<=26/\i=.int .i64 k/\Hid (ColSt wr (B+1) (B+2) ⟨[],zl0 10 ++ zpS es k,[]⟩)/\Hid (Only (fun g=>g=B+1\/B+2<=g) w0 wr)) (fun i _=>26 - (intOf i).toNat)
   case atStart=>exact ⟨0,Nat.zero_le _,rfl,HST0.out,HON.out⟩
   case round =>
    clear HON HST0;obtain ⟨k,hk,rfl,HST,HON⟩:=hrel;by_cases hlt:k<26
    ·have hdl:(zl0 10 ++ zpS es k).length<=62:=by
      rw[List.length_append,zkU];have:=zo6 es k;omega
     obtain ⟨ds,HDS⟩:∃ ds,Hid (zl0 10 ++ zpS es k=ds):=⟨_,rfl⟩;have HNX:Hid (zl0 10 ++ zpS es (k+1)=ds ++ zCW es k):=(by rw[<- HDS.out,zrF,List.append_assoc];exact Hd rfl);rw[HDS.out] at HST hdl;obtain ⟨vR,vO,hb,hR,hO⟩:=HST.out;have HRU:=Hd (zz2 k hlt);obtain ⟨s,HS⟩:∃ s,Hid ([UInt8.ofNat (97+k),UInt8.ofNat (65+k)]=s):=⟨_,rfl⟩;rw[HS.out] at HRU;have HBB:=Hd hb;have HR:=Hd hR;have HO:=Hd hO;have hz:=hb.lt;obtain ⟨aO,cO,rfl,_,_,_⟩:=za1 hO;have c1:wr.cell? ⟨B+1,1,none⟩=some (.slice aO ds.length cO):=hb.cell 1 _ rfl;have hbs:B+2<=wr.heap.size:=(by omega);obtain ⟨K,HKK⟩:∃ K:Int,Hid ((k:Int)=K):=⟨_,rfl⟩;have hK0:0<=K:=(by rw[<- HKK.out];omega);have hK1:K<26:=(by rw[<- HKK.out];omega);rw[HKK.out] at HRU ⊢;have cv:=zB1 wr (97+K) (97+K - 97+65);rw[show 97+K - 97+65=65+K from by omega,HRU.out,show 65+K=97+K - 97+65 from by omega] at cv;have hka:=(zaA wr (.cells #[.int .i32 (97+K),.int .i32 (97+K - 97+65)] 21)).trans (zaA _ (.cells #[.string (bs s)] 9));have hn:=Blk.new (wr.alloc (.cells #[.int .i32 (97+K),.int .i32 (97+K - 97+65)] 21)) 9 #[.string (bs s)];rw[World.size_alloc] at hn;have HN2:=Hd hn;have HB2:=Hd (HBB.out.kept hka);have HR2:=Hd (zaU HR.out hka);have HO2:=Hd (zaU HO.out hka);have HK2:=Hd hka;have hb2:=Nat.le_trans hbs hka.size;clear hlt hk hka hb hR hO HST HBB HR HO hn;go_upto_region 12 with (first
      | (refine zf3 _ rfl (.tmp 31) (.tmp 38) rfl (B+2) _ ds (by rfl) HO2.out s _ (by rfl) HN2.out (by omega) hb2 ?_;intro v' w3 hown3 hgrow3;have hb3:=(hgrow3.block (B+1) HB2.out.lt (zbZ HO2.out HB2.out (by decide))).trans HB2.out;have f3:w3.frozen? ⟨B+1,1,none⟩=false:=(show Blk w3 (B+1) 88 _ from hb3).free 1;have c3:w3.cell? ⟨B+1,1,none⟩=some (.slice aO ds.length cO):=(show Blk w3 (B+1) 88 _ from hb3).cell 1 _ rfl;have z3:=(show Blk w3 (B+1) 88 _ from hb3).lt;have HG3:=Hd hgrow3;have HO3:=Hd hown3;obtain ⟨a3,c3',rfl,_,_,_⟩:=za1 hown3;clear hgrow3 hown3 hb3))
     have hS:=zoU (c:=⟨[],ds,[]⟩) (ws:=[s]) HB2.out HR2.out HO2.out HO3.out HG3.out;rw[show (ds ++ [s]).length=ds.length+1 from by simp] at hS;have HS1:=Hd hS.1;have HS2:=Hd ((HON.out.trans (Only.of_kept HK2.out)).trans hS.2);clear hS HB2 HR2 HO2 HO3 HG3 HN2 HK2 c1 f3 c3 z3 hb2 hbs cv HON;simp only[World.size_alloc,Nat.add_assoc] at HS1 HS2 ⊢;generalize World.setCell _ _ _=w4 at *;by_cases hq:es=true/\k=13
     ·obtain ⟨hq1,hq2⟩:=hq;have hK:(97+K == 110)=true:=(by rw[<- HKK.out,hq2];rfl);have hK2:97+K=110:=(by rw[<- HKK.out,hq2];rfl);have hes:(lang == [101,115])=true:=HES.out.trans hq1;have HLC:Hid (zl0 10 ++ zpS es (k+1)=(ds ++ [s]) ++ [nyB]):=by
       show _=_;rw[HNX.out,<- HS.out];unfold zCW;rw[if_pos ⟨hq1,hq2⟩,List.append_assoc];rfl
      obtain ⟨dt,HDT⟩:∃ dt,Hid (ds ++ [s]=dt):=⟨_,rfl⟩;have hdl2:dt.length<=63:=(by rw[<- HDT.out,List.length_append,List.length_singleton];omega);rw[HDT.out] at HS1 HLC;obtain ⟨vR,vO,hb,hR,hO⟩:=HS1.out;have HBB:=Hd hb;have HR:=Hd hR;have HO:=Hd hO;have hz:=hb.lt;obtain ⟨aO,cO,rfl,_,_,_⟩:=za1 hO;have c1:w4.cell? ⟨B+1,1,none⟩=some (.slice aO dt.length cO):=hb.cell 1 _ rfl;have hbs:B+2<=w4.heap.size:=(by omega);have hka:=zaA w4 (.cells #[.string (bs [195,177,195,145])] 9);have hn:=Blk.new w4 9 #[.string (bs [195,177,195,145])];have HN2:=Hd hn;have HB2:=Hd (HBB.out.kept hka);have HR2:=Hd (zaU HR.out hka);have HO2:=Hd (zaU HO.out hka);have HK2:=Hd hka;have hb2:=Nat.le_trans hbs hka.size;clear hka hb hR hO HBB HR HO hn HS1;go_wp2_with (first
       | (refine zf3 _ rfl (.tmp 48) (.tmp 49) rfl (B+2) _ dt (by rfl) HO2.out [195,177,195,145] _ (by rfl) HN2.out (by omega) hb2 ?_;intro v' w3 hown3 hgrow3;have hb3:=(hgrow3.block (B+1) HB2.out.lt (zbZ HO2.out HB2.out (by decide))).trans HB2.out;have f3:w3.frozen? ⟨B+1,1,none⟩=false:=(show Blk w3 (B+1) 88 _ from hb3).free 1;have c3:w3.cell? ⟨B+1,1,none⟩=some (.slice aO dt.length cO):=(show Blk w3 (B+1) 88 _ from hb3).cell 1 _ rfl;have z3:=(show Blk w3 (B+1) 88 _ from hb3).lt;have HG3:=Hd hgrow3;have HO3:=Hd hown3;obtain ⟨a3,c3',rfl,_,_,_⟩:=za1 hown3;clear hgrow3 hown3 hb3))
      have hS:=zoU (c:=⟨[],dt,[]⟩) (ws:=[[195,177,195,145]]) HB2.out HR2.out HO2.out HO3.out HG3.out;have hln:(dt ++ [[195,177,195,145]]).length=dt.length+1:=(by rw[List.length_append];rfl);simp only[hln] at hS;have hS1:ColSt _ (B+1) (B+2) ⟨[],dt ++ [[195,177,195,145]],[]⟩:=hS.1;rw[show dt ++ [[195,177,195,145]]=zl0 10 ++ zpS es (k+1) from HLC.out.symm] at hS1;rw[hq1] at hS1;have HS3:=Hd hS1;clear hS1;have HS4:=Hd ((HS2.out.trans (Only.of_kept HK2.out)).trans hS.2);clear hS HB2 HR2 HO2 HO3 HG3 HN2 HK2 c1 f3 c3 z3;go_wp2_with fail;go_roundw
      case rel=>refine ⟨_,_,_,⟨k+1,(by have:=HKK.out;omega),?_,HS3.out,HS4.out⟩,rfl,rfl,rfl⟩;rw[<- HKK.out];rfl
      case measure=>have:=HKK.out;simp [intOf];omega
     ·have HLC:Hid (zl0 10 ++ zpS es (k+1)=ds ++ [s]):=by
       show _=_;rw[HNX.out,<- HS.out];unfold zCW;rw[if_neg hq]
      rw[<- HLC.out] at HS1;cases hes0:es with
      | true =>
       have hes:(lang == [101,115])=true:=HES.out.trans hes0;have hk13:k≠13:=fun e=>hq ⟨hes0,e⟩;have hK2:¬ 97+K=110:=(by rw[<- HKK.out];omega);have hK:(97+K == 110)=false:=(by rw[beq_eq_false_iff_ne];exact hK2);rw[hes0] at HS1;go_wp2_with fail;go_roundw
       case rel=>refine ⟨_,_,_,⟨k+1,(by have:=HKK.out;omega),?_,HS1.out⟩,rfl,rfl,rfl⟩;rw[<- HKK.out];rfl
       case measure=>have:=HKK.out;simp [intOf];omega
      | false =>
       have hes:(lang == [101,115])=false:=HES.out.trans hes0;rw[hes0] at HS1;go_wp2_with fail;go_roundw
       case rel=>refine ⟨_,_,_,⟨k+1,(by have:=HKK.out;omega),?_,HS1.out⟩,rfl,rfl,rfl⟩;rw[<- HKK.out];rfl
       case measure=>have:=HKK.out;simp [intOf];omega
    ·obtain rfl:k=26:=(by omega);rw[<- HES.out] at HST;obtain ⟨ds,HDS⟩:∃ ds,Hid (zl0 10 ++ zpS (lang == wEs) 26=ds):=⟨_,rfl⟩;have HLO:Hid (zw3 lang=⟨rkL lang,ds,[]⟩):=by
      show _=_;rw[<- HDS.out];rfl
     have hdl:ds.length<=62:=by
      rw[<- HDS.out,List.length_append,zkU];have:=zo6 (lang == wEs) 26;omega
     rw[HDS.out] at HST;rw[HLO.out] at HFIN;have HRR:=Hd (HRB.out.onl HON.out (by omega));have HKW:Hid (Kept w wr):=HK0.out.trans' (HON.out.below HK0.out.size (fun i e=>by omega));obtain ⟨vR,vO,hb,hR,hO⟩:=HST.out;have HCB:=Hd hb;have HOO:Hid (Strs wr vO ds):=Strs.own hO;have HOL:Hid (∀ g,vO.ownBlock=some g->B+2<=g/\g<wr.heap.size):=fun g q=>hO.lt g q;obtain ⟨aO,cO,rfl,_,_,_⟩:=za1 hO;obtain ⟨aR,cR,hvR,_,_,_⟩:=za1 hR;have hvR':vR=.slice aR 0 cR:=hvR;subst hvR';have hcz:=hb.lt;have hrz:=HRR.out.lt;clear hb hR hO HDS HLO HES;rcases zFj lang with h1|h1|h1|⟨h1,h2,h3⟩
     case' inl =>
      subst h1;have n1:(wDe == [100,101])=true:=(by decide);have HRK:Hid (rkL wDe=zCX):=(by show _=_;decide +kernel);rw[HRK.out] at HFIN;have HSP:=Hd (zl5 zzO (zCX.map zcD) wr (hg.kept HKW.out) zDE (by rw[List.length_map];exact zDH) (by decide +kernel));have HBF:Hid (∀ p∈zCX,zaP 32 (zcD p)=p.1.length/\p.1.length<=10/\p.2.length<=10):=(by show ∀ p∈_,_;decide +kernel);have HRN:Hid (zCX.length<=28):=(by show _<=_;decide +kernel);obtain ⟨rk,HRQ⟩:∃ rk,Hid (zCX=rk):=⟨_,rfl⟩;rw[HRQ.out] at HFIN HSP HBF HRN;clear HRK HRQ;unfold zzO at HSP
     case' inr.inl =>
      subst h1;have n1:(wFr == [100,101])=false:=(by decide);have n2:(wFr == [102,114])=true:=(by decide);have HRK:Hid (rkL wFr=zCY):=(by show _=_;decide +kernel);rw[HRK.out] at HFIN;have HSP:=Hd (zl5 zzP (zCY.map zcD) wr (hg.kept HKW.out) zDF (by rw[List.length_map];exact zDI) (by decide +kernel));have HBF:Hid (∀ p∈zCY,zaP 32 (zcD p)=p.1.length/\p.1.length<=10/\p.2.length<=10):=(by show ∀ p∈_,_;decide +kernel);have HRN:Hid (zCY.length<=28):=(by show _<=_;decide +kernel);obtain ⟨rk,HRQ⟩:∃ rk,Hid (zCY=rk):=⟨_,rfl⟩;rw[HRQ.out] at HFIN HSP HBF HRN;clear HRK HRQ;unfold zzP at HSP
     case' inr.inr.inl =>
      subst h1;have n1:(wEs == [100,101])=false:=(by decide);have n2:(wEs == [102,114])=false:=(by decide);have n3:(wEs == [101,115])=true:=(by decide);have HRK:Hid (rkL wEs=zCZ):=(by show _=_;decide +kernel);rw[HRK.out] at HFIN;have HSP:=Hd (zl5 zzQ (zCZ.map zcD) wr (hg.kept HKW.out) zDG (by rw[List.length_map];exact zDJ) (by decide +kernel));have HBF:Hid (∀ p∈zCZ,zaP 32 (zcD p)=p.1.length/\p.1.length<=10/\p.2.length<=10):=(by show ∀ p∈_,_;decide +kernel);have HRN:Hid (zCZ.length<=28):=(by show _<=_;decide +kernel);obtain ⟨rk,HRQ⟩:∃ rk,Hid (zCZ=rk):=⟨_,rfl⟩;rw[HRQ.out] at HFIN HSP HBF HRN;clear HRK HRQ;unfold zzQ at HSP
     case inr.inr.inr =>
      have n1:(lang == [100,101])=false:=(by rw[beq_eq_false_iff_ne];exact h1);have n2:(lang == [102,114])=false:=(by rw[beq_eq_false_iff_ne];exact h2);have n3:(lang == [101,115])=false:=(by rw[beq_eq_false_iff_ne];exact h3);have HRK:Hid (rkL lang=[]):=by
       show _=_;unfold rkL;rw[if_neg h1,if_neg h2,if_neg h3]
      rw[HRK.out] at HFIN;go_wp2_with (first
       | (refine zaW (by rfl) 88 (.tmp 3) (by rfl) (B+1) _ (by rfl) HCB.out _ Tryz.underlying88 rfl Tryz.sizeCo ?_)
       | (refine zbA rfl 88 (.tmp 2) (.tmp 54) (by rfl) B _ #[.slice aR 0 cR,.slice aO ds.length cO,.string (bs [])] (by rfl) (by rfl) HRR.out rfl Tryz.sizeCo (by simp only[List.all_toArray,List.all_cons,List.all_nil];rfl) ?_;intro w9 hb9 ho9;have r0:w9.cell? ⟨B,0,none⟩=some (.slice aR 0 cR):=hb9.cell 0 _ rfl;have r1:w9.cell? ⟨B,1,none⟩=some (.slice aO ds.length cO):=hb9.cell 1 _ rfl;have r2:w9.cell? ⟨B,2,none⟩=some (.string (bs [])):=hb9.cell 2 _ rfl;have rz:=hb9.lt;have HO9:=Hd ho9;clear hb9 ho9))
      have HRX:=HRR.out;refine bodyPost_ret (v:=zAM (.slice aR 0 cR) (.slice aO ds.length cO) []) ?_ rfl (HFIN.out (.slice aR 0 cR) (.slice aO ds.length cO) w9 ⟨?_,?_⟩ ?_ ?_ ?_)
      ·simp [results,Tryz.results38,go_sem,r0,r1,r2,rz]
      ·exact ⟨aR,cR,rfl,Nat.zero_le _,fun h=>absurd h (by simp)⟩
      ·exact HOO.out.onlS (S:=fun g=>B+2<=g) (fun _ g q=>(HOL.out g q).1) HO9.out (fun g _ hs q=>by omega)
      ·exact fun h=>absurd h (by simp)
      ·exact fun _ g q=>by have:=(HOL.out g q).1;omega
      ·exact HKW.out.trans' (HO9.out.below HKW.out.size (fun i e=>by omega))
     all_goals
      have HRT:Hid (∀ (k:Nat) p,rk[k]? = some p->(rk.map zcD)[k]? = some (zcD p)):=fun k p h=>(by rw[List.getElem?_map,h];rfl);have hrl:(rk.map zcD).length=rk.length:=List.length_map _;obtain ⟨rs,HRS⟩:∃ rs,Hid (rk.map zcD=rs):=⟨_,rfl⟩;rw[HRS.out] at HRT HSP hrl;have HRL:=Hd hrl;have HCT:=Hd (fun (p:Pr) (h:zaP 32 (zcD p)=p.1.length/\p.1.length<=10/\p.2.length<=10) w' (k:Kept w w')=>zB2 p w' (hg.kept k) h.1 h.2.1 h.2.2);clear hrl HRS;go_wp2_with fail;refine HSP.out.mono ?_;rintro e w1 ⟨rfl,rfl⟩;have hka:=zaA wr (.cells (zaH rs).toArray 9);have HSB:=Hd (Blk.new wr 9 (zaH rs).toArray);have HST1:=Hd (HST.out.kept hka);have HON1:Hid (Only (fun g=>g=B+1\/B+2<=g) w0 _):=HON.out.trans (Only.of_kept hka);have HSB2:Hid (B+2<=wr.heap.size):=(by show _<=_;omega);generalize wr.alloc (.cells (zaH rs).toArray 9)=w1 at *;generalize wr.heap.size=S at *;clear HSP hka HST HON HRR HCB HOO HOL hcz hrz HKW;go_wp2_with fail;go_loopw [64] (fun i wx=>∃ (k:Nat),k<=rs.length/\i=.int .i64 k/\Hid (ColSt wx (B+1) (B+2) ⟨rk.take k,ds,[]⟩)/\Hid (Blk wx S 9 (zaH rs).toArray)/\Hid (Only (fun g=>g=B+1\/B+2<=g) w0 wx)) (fun i _=>rs.length - (intOf i).toNat)
      case atStart=>exact ⟨0,Nat.zero_le _,rfl,HST1.out,HSB.out,HON1.out⟩
      case round =>
       clear HST1 HSB HON1;obtain ⟨k,hk,rfl,HST,HSB,HON⟩:=hrel;have HKW:Hid (Kept w wr):=HK0.out.trans' (HON.out.below HK0.out.size (fun i e=>by omega));by_cases hlt:k<rs.length
       ·obtain ⟨q,hx⟩:∃ x,rk[k]? = some x:=⟨_,List.getElem?_eq_getElem (by have:=HRL.out;omega)⟩;have hqr:=HRT.out k q hx;have hrs28:rs.length<=28:=(by have h1:=HRL.out;have h2:=HRN.out;omega);have HTK:=Hd (zDQ hx);have hbf:=HBF.out q (List.mem_of_getElem? hx);have HCQ:=Hd (fun w' (kk:Kept wr w')=>HCT.out q hbf w' (HKW.out.trans kk));have d0:wr.cell? ⟨S,k,none⟩=some (.string (bs (zcD q))):=HSB.out.cell k _ (by rw[List.getElem?_toArray];unfold zaH;rw[List.getElem?_map,hqr];rfl);have sz:=HSB.out.lt;have hul:(rk.take k).length<=28:=(by have:=HRN.out;rw[List.length_take];omega);obtain ⟨us,HUS⟩:∃ us,Hid (rk.take k=us):=⟨_,rfl⟩;rw[HUS.out] at HST HTK hul;obtain ⟨rt,HRTX⟩:∃ rt,Hid (zcD q=rt):=⟨_,rfl⟩;rw[HRTX.out] at d0 HCQ;obtain ⟨q1,q2⟩:=q;simp only at HCQ;clear hx hqr HUS HRTX hbf;go_wp2_with fail;refine (HCQ.out wr (Kept.refl _)).mono ?_;rintro e w2 ⟨rfl,n2,rfl⟩;have hkd:=zaB wr n2;have HST2:=Hd (HST.out.kept hkd);have HSB2':=Hd (HSB.out.kept hkd);have HON2:Hid (Only (fun g=>g=B+1\/B+2<=g) w0 _):=HON.out.trans (Only.of_kept hkd);generalize wr.drewN n2=w2 at *;clear d0 sz HST HSB HON hkd HCQ;obtain ⟨vR,vO,hb,hR,hO⟩:=HST2.out;have HBB:=Hd hb;have HR:=Hd hR;have HO:=Hd hO;have hz:=hb.lt;obtain ⟨aR',cR',hvR,_,_,_⟩:=za1 hR;have hvR':vR=.slice aR' us.length cR':=hvR;subst hvR';have c1:w2.cell? ⟨B+1,0,none⟩=some (.slice aR' us.length cR'):=hb.cell 0 _ rfl;have hbs:B+2<=w2.heap.size:=(by omega);have hka:=zaA w2 (.cells #[.string (bs q1),.string (bs q2)] 62);have HN2:=Hd (Blk.new w2 62 #[.string (bs q1),.string (bs q2)]);have HB2:=Hd (HBB.out.kept hka);have HR2:=Hd (zaU HR.out hka);have HO2:=Hd (zaU HO.out hka);have HS2:=Hd (HSB2'.out.kept hka);have HK2:=Hd hka;have hb2:=Nat.le_trans hbs hka.size;clear hka hb hR hO HBB HR HO HST2 HSB2';go_wp2_with (first
         | (refine zkC _ rfl (.tmp 75) (.tmp 79) rfl (B+2) _ us (by rfl) HR2.out (q1,q2) _ (by rfl) HN2.out (by omega) hb2 ?_;intro v' w3 hown3 hgrow3;have hb3:=(hgrow3.block (B+1) HB2.out.lt (zbZ HR2.out HB2.out (by decide))).trans HB2.out;have f3:w3.frozen? ⟨B+1,0,none⟩=false:=(show Blk w3 (B+1) 88 _ from hb3).free 0;have c3:w3.cell? ⟨B+1,0,none⟩=some (.slice aR' us.length cR'):=(show Blk w3 (B+1) 88 _ from hb3).cell 0 _ rfl;have z3:=(show Blk w3 (B+1) 88 _ from hb3).lt;have HG3:=Hd hgrow3;have HO3:=Hd hown3;obtain ⟨a3,c3',rfl,_,_,_⟩:=za1 hown3;have HS3:Hid (Blk w3 S 9 (zaH rs).toArray):=(hgrow3.block S HS2.out.lt (zbZ HR2.out HS2.out (by decide))).trans HS2.out;clear hgrow3 hown3 hb3))
        have hS:=zBs (c:=⟨us,ds,[]⟩) (ps:=[(q1,q2)]) HB2.out HR2.out HO2.out HO3.out HG3.out;have hln:(us ++ [(q1,q2)]).length=us.length+1:=(by rw[List.length_append];rfl);simp only[hln] at hS;have hS1:ColSt _ (B+1) (B+2) ⟨us ++ [(q1,q2)],ds,[]⟩:=hS.1;rw[<- HTK.out] at hS1;have HS4:=Hd hS1;have HS5:=Hd ((HON2.out.trans (Only.of_kept HK2.out)).trans hS.2);have hsb:=HSB2.out;have HS6:=Hd (HS3.out.onl (Only.setCell (B+1) 0 (.slice a3 (us.length+1) c3')) (by omega));clear hS hS1 HB2 HR2 HO2 HO3 HG3 HN2 HK2 c1 f3 c3 z3 HS2 HS3 HON2 hln;go_wp2_with fail;go_roundw
        case rel=>exact ⟨k+1,by omega,by go_num,HS4.out,HS6.out,HS5.out⟩
        case measure=>simp [intOf];omega
       ·have hke:k=rk.length:=(by have:=HRL.out;omega);rw[hke,List.take_length] at HST;have HRR:=Hd (HRB.out.onl HON.out (by omega));obtain ⟨vR,vO,hb,hR,hO⟩:=HST.out;have HCB:=Hd hb;have HPR:Hid (Prs wr vR rk):=Prs.own hR;have HOO:Hid (Strs wr vO ds):=Strs.own hO;have HOL:Hid (∀ g,vO.ownBlock=some g->B+2<=g/\g<wr.heap.size):=fun g q=>hO.lt g q;have HRL2:Hid (∀ g,vR.ownBlock=some g->B+2<=g/\g<wr.heap.size):=fun g q=>hR.lt g q;obtain ⟨aO,cO,rfl,_,_,_⟩:=za1 hO;obtain ⟨aR,cR,hvR,_,_,_⟩:=za1 hR;have hvR':vR=.slice aR rk.length cR:=hvR;subst hvR';have hcz:=hb.lt;have hrz:=HRR.out.lt;clear hb hR hO HST HON HSB HRL hke;go_wp2_with (first
         | (refine zaW (by rfl) 88 (.tmp 3) (by rfl) (B+1) _ (by rfl) HCB.out _ Tryz.underlying88 rfl Tryz.sizeCo ?_)
         | (refine zbA rfl 88 (.tmp 2) (.tmp 83) (by rfl) B _ #[.slice aR rk.length cR,.slice aO ds.length cO,.string (bs [])] (by rfl) (by rfl) HRR.out rfl Tryz.sizeCo (by simp only[List.all_toArray,List.all_cons,List.all_nil];rfl) ?_;intro w9 hb9 ho9;have r0:w9.cell? ⟨B,0,none⟩=some (.slice aR rk.length cR):=hb9.cell 0 _ rfl;have r1:w9.cell? ⟨B,1,none⟩=some (.slice aO ds.length cO):=hb9.cell 1 _ rfl;have r2:w9.cell? ⟨B,2,none⟩=some (.string (bs [])):=hb9.cell 2 _ rfl;have rz:=hb9.lt;have HO9:=Hd ho9;clear hb9 ho9))
        refine bodyPost_ret (v:=zAM (.slice aR rk.length cR) (.slice aO ds.length cO) []) ?_ rfl (HFIN.out (.slice aR rk.length cR) (.slice aO ds.length cO) w9 ⟨?_,?_⟩ ?_ ?_ ?_)
        ·simp [results,Tryz.results38,go_sem,r0,r1,r2,rz]
        ·exact HPR.out.onlS (S:=fun g=>B+2<=g) (fun _ g q=>(HRL2.out g q).1) HO9.out (fun g _ hs q=>by omega)
        ·exact HOO.out.onlS (S:=fun g=>B+2<=g) (fun _ g q=>(HOL.out g q).1) HO9.out (fun g _ hs q=>by omega)
        ·exact fun _ g q=>by have:=(HRL2.out g q).1;omega
        ·exact fun _ g q=>by have:=(HOL.out g q).1;omega
        ·exact HKW.out.trans' (HO9.out.below HKW.out.size (fun i e=>by omega))
end Go.Proofs.YtmcoomlkbgiboaaGreatDoor
