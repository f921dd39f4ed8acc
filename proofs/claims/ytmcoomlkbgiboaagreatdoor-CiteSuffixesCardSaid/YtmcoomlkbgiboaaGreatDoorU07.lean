/- Text of package person and of its reference. Conditions: lengths. -/
import Derived.Test.YtmcoomlkbgiboaaGreatDoorU06
import Derived.Test.YtmcoomlkbgiboaaGreatDoorU04
import Derived.Test.YtmcoomlkbgiboaaGreatDoorU03
import Derived.Test.YtmcoomlkbgiboaaGreatDoorU01
import Derived.Deep.RegionWith
set_option linter.all false
set_option maxRecDepth 100000
set_option maxHeartbeats 3200000
namespace Go.Proofs.YtmcoomlkbgiboaaGreatDoor
open Go.RowKit
def zA6 (f g p s:Bs):Bs :=
 (if p=[] then f else [123] ++ p ++ [125,32] ++ f) ++
 (if s=[] then (if g=[] then [] else [44,32] ++ g) else [44,32] ++ s ++ [44] ++ (if g=[] then [] else [32] ++ g))
def zi0 (f g p s:Bs):Int:=if f=[] then 8 else if zdC f && zdC g && zdC p && zdC s then 0 else 17
def zoE (f g p s:Bs):Bs:=if zi0 f g p s=0 then zA6 f g p s else []
theorem zxM (f g p s:Bs) (w:World) (hg:Gnd w) (hf:¬ f=[])  (hn:zdC f=false) (hs:f.length+g.length+p.length+s.length<=10000000) :
  Calls Tryz.prog 171 #[ziZ f g p s] w fun e w'=>e=.returned (.tuple #[.string (bs []),.int .i64 17])/\Kept w w':=by
 have hfe:f.isEmpty=false:=(by simpa using hf);go_enter Tryz.func171,Tryz.ntmps171;go_wp2_with fail;refine (zcF f _ (hg.kept (zaA _ _)) (by omega)).mono ?_;rintro e w1 ⟨rfl,hk0⟩;rw[hn];have HK0:=Hd hk0;obtain ⟨kc,kf⟩:=zbC HK0.out;have hz:w.heap.size<w1.heap.size:=(by have:=HK0.out.size;simp at this;omega);have HK:=Hd ((zaA w _).trans HK0.out);have HG:=Hd (hg.kept HK.out);clear hk0;go_wp2_with fail;go_ret2;exact ⟨rfl,HK.out⟩
theorem zxN (f g p s:Bs) (w:World) (hg:Gnd w) (hf:¬ f=[]) (y0:zdC f=true) (hn:zdC g=false) (hs:f.length+g.length+p.length+s.length<=10000000) :
  Calls Tryz.prog 171 #[ziZ f g p s] w fun e w'=>e=.returned (.tuple #[.string (bs []),.int .i64 17])/\Kept w w':=by
 have hfe:f.isEmpty=false:=(by simpa using hf);go_enter Tryz.func171,Tryz.ntmps171;go_wp2_with fail;refine (zcF f _ (hg.kept (zaA _ _)) (by omega)).mono ?_;rintro e w1 ⟨rfl,hk0⟩;rw[y0];have HK0:=Hd hk0;obtain ⟨kc,kf⟩:=zbC HK0.out;have hz:w.heap.size<w1.heap.size:=(by have:=HK0.out.size;simp at this;omega);have HK:=Hd ((zaA w _).trans HK0.out);have HG:=Hd (hg.kept HK.out);clear hk0;go_wp2_with fail;refine (zcF g _ HG.out (by omega)).mono ?_;rintro e w2 ⟨rfl,hk1⟩;rw[hn];have HK1:=Hd (HK0.out.trans hk1);clear kc kf hz HK HK0 HG;obtain ⟨kc,kf⟩:=zbC HK1.out;have hz:w.heap.size<w2.heap.size:=(by have:=HK1.out.size;simp at this;omega);have HK:=Hd ((zaA w _).trans HK1.out);have HG:=Hd (hg.kept HK.out);clear hk1;go_wp2_with fail;go_ret2;exact ⟨rfl,HK.out⟩
theorem zxO (f g p s:Bs) (w:World) (hg:Gnd w) (hf:¬ f=[]) (y0:zdC f=true) (y1:zdC g=true) (hn:zdC p=false) (hs:f.length+g.length+p.length+s.length<=10000000) :
  Calls Tryz.prog 171 #[ziZ f g p s] w fun e w'=>e=.returned (.tuple #[.string (bs []),.int .i64 17])/\Kept w w':=by
 have hfe:f.isEmpty=false:=(by simpa using hf);go_enter Tryz.func171,Tryz.ntmps171;go_wp2_with fail;refine (zcF f _ (hg.kept (zaA _ _)) (by omega)).mono ?_;rintro e w1 ⟨rfl,hk0⟩;rw[y0];have HK0:=Hd hk0;obtain ⟨kc,kf⟩:=zbC HK0.out;have hz:w.heap.size<w1.heap.size:=(by have:=HK0.out.size;simp at this;omega);have HK:=Hd ((zaA w _).trans HK0.out);have HG:=Hd (hg.kept HK.out);clear hk0;go_wp2_with fail;refine (zcF g _ HG.out (by omega)).mono ?_;rintro e w2 ⟨rfl,hk1⟩;rw[y1];have HK1:=Hd (HK0.out.trans hk1);clear kc kf hz HK HK0 HG;obtain ⟨kc,kf⟩:=zbC HK1.out;have hz:w.heap.size<w2.heap.size:=(by have:=HK1.out.size;simp at this;omega);have HK:=Hd ((zaA w _).trans HK1.out);have HG:=Hd (hg.kept HK.out);clear hk1;go_wp2_with fail;refine (zcF p _ HG.out (by omega)).mono ?_;rintro e w3 ⟨rfl,hk2⟩;rw[hn];have HK2:=Hd (HK1.out.trans hk2);clear kc kf hz HK HK1 HG;obtain ⟨kc,kf⟩:=zbC HK2.out;have hz:w.heap.size<w3.heap.size:=(by have:=HK2.out.size;simp at this;omega);have HK:=Hd ((zaA w _).trans HK2.out);have HG:=Hd (hg.kept HK.out);clear hk2;go_wp2_with fail;go_ret2;exact ⟨rfl,HK.out⟩
theorem zxP (f g p s:Bs) (w:World) (hg:Gnd w) (hf:¬ f=[]) (y0:zdC f=true) (y1:zdC g=true) (y2:zdC p=true) (hn:zdC s=false) (hs:f.length+g.length+p.length+s.length<=10000000) :
  Calls Tryz.prog 171 #[ziZ f g p s] w fun e w'=>e=.returned (.tuple #[.string (bs []),.int .i64 17])/\Kept w w':=by
 have hfe:f.isEmpty=false:=(by simpa using hf);go_enter Tryz.func171,Tryz.ntmps171;go_wp2_with fail;refine (zcF f _ (hg.kept (zaA _ _)) (by omega)).mono ?_;rintro e w1 ⟨rfl,hk0⟩;rw[y0];have HK0:=Hd hk0;obtain ⟨kc,kf⟩:=zbC HK0.out;have hz:w.heap.size<w1.heap.size:=(by have:=HK0.out.size;simp at this;omega);have HK:=Hd ((zaA w _).trans HK0.out);have HG:=Hd (hg.kept HK.out);clear hk0;go_wp2_with fail;refine (zcF g _ HG.out (by omega)).mono ?_;rintro e w2 ⟨rfl,hk1⟩;rw[y1];have HK1:=Hd (HK0.out.trans hk1);clear kc kf hz HK HK0 HG;obtain ⟨kc,kf⟩:=zbC HK1.out;have hz:w.heap.size<w2.heap.size:=(by have:=HK1.out.size;simp at this;omega);have HK:=Hd ((zaA w _).trans HK1.out);have HG:=Hd (hg.kept HK.out);clear hk1;go_wp2_with fail;refine (zcF p _ HG.out (by omega)).mono ?_;rintro e w3 ⟨rfl,hk2⟩;rw[y2];have HK2:=Hd (HK1.out.trans hk2);clear kc kf hz HK HK1 HG;obtain ⟨kc,kf⟩:=zbC HK2.out;have hz:w.heap.size<w3.heap.size:=(by have:=HK2.out.size;simp at this;omega);have HK:=Hd ((zaA w _).trans HK2.out);have HG:=Hd (hg.kept HK.out);clear hk2;go_wp2_with fail;refine (zcF s _ HG.out (by omega)).mono ?_;rintro e w4 ⟨rfl,hk3⟩;rw[hn];have HK3:=Hd (HK2.out.trans hk3);clear kc kf hz HK HK2 HG;obtain ⟨kc,kf⟩:=zbC HK3.out;have hz:w.heap.size<w4.heap.size:=(by have:=HK3.out.size;simp at this;omega);have HK:=Hd ((zaA w _).trans HK3.out);have HG:=Hd (hg.kept HK.out);clear hk3;go_wp2_with fail;go_ret2;exact ⟨rfl,HK.out⟩
theorem zDc (f g p s:Bs) (w:World) (hg:Gnd w) (hf:¬ f=[]) (y0:zdC f=true) (y1:zdC g=true) (y2:zdC p=true) (y3:zdC s=true) (hs:f.length+g.length+p.length+s.length<=10000000) :
  Calls Tryz.prog 171 #[ziZ f g p s] w fun e w'=>e=.returned (.tuple #[.string (bs (zA6 f g p s)),.int .i64 0])/\Kept w w':=by
 have hfe:f.isEmpty=false:=(by simpa using hf);go_enter Tryz.func171,Tryz.ntmps171;go_wp2_with fail;refine (zcF f _ (hg.kept (zaA _ _)) (by omega)).mono ?_;rintro e w1 ⟨rfl,hk0⟩;rw[y0];have HK0:=Hd hk0;obtain ⟨kc,kf⟩:=zbC HK0.out;have hz:w.heap.size<w1.heap.size:=(by have:=HK0.out.size;simp at this;omega);have HK:=Hd ((zaA w _).trans HK0.out);have HG:=Hd (hg.kept HK.out);clear hk0;go_wp2_with fail;refine (zcF g _ HG.out (by omega)).mono ?_;rintro e w2 ⟨rfl,hk1⟩;rw[y1];have HK1:=Hd (HK0.out.trans hk1);clear kc kf hz HK HK0 HG;obtain ⟨kc,kf⟩:=zbC HK1.out;have hz:w.heap.size<w2.heap.size:=(by have:=HK1.out.size;simp at this;omega);have HK:=Hd ((zaA w _).trans HK1.out);have HG:=Hd (hg.kept HK.out);clear hk1;go_wp2_with fail;refine (zcF p _ HG.out (by omega)).mono ?_;rintro e w3 ⟨rfl,hk2⟩;rw[y2];have HK2:=Hd (HK1.out.trans hk2);clear kc kf hz HK HK1 HG;obtain ⟨kc,kf⟩:=zbC HK2.out;have hz:w.heap.size<w3.heap.size:=(by have:=HK2.out.size;simp at this;omega);have HK:=Hd ((zaA w _).trans HK2.out);have HG:=Hd (hg.kept HK.out);clear hk2;go_wp2_with fail;refine (zcF s _ HG.out (by omega)).mono ?_;rintro e w4 ⟨rfl,hk3⟩;rw[y3];have HK3:=Hd (HK2.out.trans hk3);clear kc kf hz HK HK2 HG;obtain ⟨kc,kf⟩:=zbC HK3.out;have hz:w.heap.size<w4.heap.size:=(by have:=HK3.out.size;simp at this;omega);have HK:=Hd ((zaA w _).trans HK3.out);have HG:=Hd (hg.kept HK.out);clear hk3;by_cases hp:p=[] <;> by_cases hs':s=[] <;> by_cases hg':g=[]
 all_goals
  first|subst hp|(have hpe:p.isEmpty=false:=by simpa using hp)
  first|subst hs'|(have hse:s.isEmpty=false:=by simpa using hs')
  first|subst hg'|(have hge:g.isEmpty=false:=by simpa using hg')
  try simp only[List.length_nil,Nat.add_zero,Nat.zero_add] at hs
  go_wp2_with fail;go_ret2;refine ⟨?_,HK.out⟩;refine congrArg (fun x=>Ending.returned (.tuple #[.string (bs x),.int .i64 0])) ?_;simp [zA6, *]
theorem ztN (f g p s:Bs) (w:World) (hg:Gnd w) (hs:f.length+g.length+p.length+s.length<=10000000) :
  Calls Tryz.prog 171 #[ziZ f g p s] w fun e w'=>e=.returned (.tuple #[.string (bs (zoE f g p s)),.int .i64 (zi0 f g p s)])/\Kept w w':=by
 by_cases hf:f=[]
 ·have e1:zi0 f g p s=8:=(by unfold zi0;rw[if_pos hf]);have e2:zoE f g p s=[]:=(by unfold zoE;rw[e1];rfl);rw[e1,e2];clear e1 e2;subst hf;go_enter Tryz.func171,Tryz.ntmps171;go_wp2_with fail;go_ret2;exact ⟨rfl,zaA _ _⟩
 have hb:∀ q:Bool,(zdC f && zdC g && zdC p && zdC s)=q->zi0 f g p s=if q then 0 else 17:=by
  intro q h;unfold zi0;rw[if_neg hf,h]
 have hr:zi0 f g p s=17->zoE f g p s=[]:=(by intro h;unfold zoE;rw[h];rfl);cases h0:zdC f
 ·have e:=hb false (by rw[h0];rfl);rw[if_neg (by decide)] at e;rw[e,hr e];exact zxM f g p s w hg hf h0 hs
 cases h1:zdC g
 ·have e:=hb false (by rw[h0,h1];rfl);rw[if_neg (by decide)] at e;rw[e,hr e];exact zxN f g p s w hg hf h0 h1 hs
 cases h2:zdC p
 ·have e:=hb false (by rw[h0,h1,h2];rfl);rw[if_neg (by decide)] at e;rw[e,hr e];exact zxO f g p s w hg hf h0 h1 h2 hs
 cases h3:zdC s
 ·have e:=hb false (by rw[h0,h1,h2,h3];rfl);rw[if_neg (by decide)] at e;rw[e,hr e];exact zxP f g p s w hg hf h0 h1 h2 h3 hs
 ·have e:=hb true (by rw[h0,h1,h2,h3];rfl);rw[if_pos rfl] at e;have e2:zoE f g p s=zA6 f g p s:=(by unfold zoE;rw[e];rfl);rw[e,e2];exact zDc f g p s w hg hf h0 h1 h2 h3 hs
abbrev P4:=Bs × Bs × Bs × Bs
abbrev p4V (q:P4):Value:=ziZ q.1 q.2.1 q.2.2.1 q.2.2.2
def zFr (p t:Bs):Prop:=2<t.count 44\/p.any (zbN zCQ)=true\/t.any (zbN zFz)=true
instance (p t:Bs):Decidable (zFr p t):=by unfold zFr;infer_instance
def Perss (w:World) (v:Value) (ps:List P4):Prop :=
 ∃ a c,v=.slice a ps.length c/\ps.length<=c/\(0<ps.length->∃ g o,a=some ⟨g,o,none⟩/\g<w.heap.size/\∀ j q,ps[j]? = some q ->
  w.cell? ⟨g,o+j * 4,none⟩=some (.string (bs q.1))/\w.cell? ⟨g,o+j * 4+1,none⟩=some (.string (bs q.2.1))/\w.cell? ⟨g,o+j * 4+2,none⟩=some (.string (bs q.2.2.1))/\w.cell? ⟨g,o+j * 4+3,none⟩=some (.string (bs q.2.2.2)))
theorem Perss.kept {w w':World} {v:Value} {ps:List P4} (h:Perss w v ps) (k:Kept w w'):Perss w' v ps:=by
 obtain ⟨a,c,hv,hc,h3⟩:=h;refine ⟨a,c,hv,hc,fun q=>?_⟩;obtain ⟨g,o,ha,hg,hcell⟩:=h3 q;refine ⟨g,o,ha,Nat.lt_of_lt_of_le hg k.size,fun j x hx=>?_⟩;obtain ⟨c0,c1,c2,c3⟩:=hcell j x hx;exact ⟨(k.cell (p:=⟨g,o+j * 4,none⟩) hg).trans c0,(k.cell (p:=⟨g,o+j * 4+1,none⟩) hg).trans c1,(k.cell (p:=⟨g,o+j * 4+2,none⟩) hg).trans c2,(k.cell (p:=⟨g,o+j * 4+3,none⟩) hg).trans c3⟩
theorem Perss.cut {w:World} {a:Option Addr} {c:Nat} {ps:List P4} (h:Perss w (.slice a ps.length c) ps) (n:Nat) (hn:n<=ps.length):Perss w (.slice a n c) (ps.take n):=by
 obtain ⟨a',c',hv,hc,h3⟩:=h;obtain ⟨rfl,_,rfl⟩:=Value.slice.inj hv;refine ⟨a,c,by simp;omega,by simp;omega,fun q=>?_⟩;obtain ⟨g,o,ha,hg,hcell⟩:=h3 (by simp at q;omega);refine ⟨g,o,ha,hg,fun j x hx=>hcell j x ?_⟩;rw[List.getElem?_take] at hx
 split at hx
 ·exact hx
 ·cases hx
def zaE (full:Bool) (q:P4):Bs:=if full then zbS [q.2.1,q.2.2.1,q.1,q.2.2.2] else zbS [q.2.2.1,q.1]
def zlD (l:Bs):Bs:=if (zb0 l).isSome then l else lEn
def zcN (ps:List P4) (l:Bs) (most:Int) (full:Bool):Bs :=
 if 1<=most/\most<ps.length then Lib.join ((ps.take most.toNat).map (zaE full)) zdO ++ [32] ++ (zb0 (zlD l)).getD [] ++ [32] ++ (zbV (zlD l)).getD []
 else zd4 (zlD l) (ps.map (zaE full))
def zcQ (q:P4):Nat:=q.1.length+q.2.1.length+q.2.2.1.length+q.2.2.2.length
theorem zxQ (full:Bool) (q:P4):(zaE full q).length<=zcQ q+4:=by
 unfold zaE zcQ;cases full
 ·have:=zeB [q.2.2.1,q.1];simp [zmS] at this;simp;omega
 ·have:=zeB [q.2.1,q.2.2.1,q.1,q.2.2.2];simp [zmS] at this;simp;omega
theorem zcJ (m:Nat):∀ xs:List Bs,(∀ x∈xs,x.length<=m)->(Lib.join xs zdO).length<=xs.length * (m+2)
 | [],_=>by rw[Lib.join_nil];simp
 | x :: xs,h=>by
  have ht:∀ r:List Bs,(∀ x∈r,x.length<=m)->(Lib.joinTail zdO r).length<=r.length * (m+2):=by
   intro r
   induction r with
   | nil=>intro _;simp [Lib.joinTail]
   | cons b r ih =>
    intro hr;have h1:=ih (fun x hx=>hr x (by simp [hx]));have h2:=hr b (by simp);unfold Lib.joinTail at h1 ⊢;simp only[List.map_cons,List.flatten_cons,List.length_append,List.length_cons,Nat.add_mul,Nat.one_mul];simp only[zdO,List.length_cons,List.length_nil] at h1 ⊢;omega
  have h1:=ht xs (fun x hx=>h x (by simp [hx]));have h2:=h x (by simp);rw[Lib.join_cons];simp only[List.length_append,List.length_cons,Nat.add_mul,Nat.one_mul];omega
theorem map_take (f:P4->Bs) (ps:List P4) (k:Nat) (q:P4) (h:ps[k]? = some q):(ps.take (k+1)).map f=(ps.take k).map f ++ [f q]:=by
 obtain ⟨hk,rfl⟩:=List.getElem?_eq_some_iff.1 h;rw[List.take_succ_eq_append_getElem hk,List.map_append];rfl
theorem zb4 (full:Bool) (ps:List P4) (h:∀ q∈ps,zcQ q<=10000):∀ x∈ps.map (zaE full),x.length<=10004:=by
 intro x hx;obtain ⟨q,hq,rfl⟩:=List.mem_map.1 hx;have:=zxQ full q;have:=h q hq;omega
theorem zlE (w:World) (q:P4) (h:zcQ q<=10000):Calls Tryz.prog 163 #[p4V q] w fun e w'=>e=.returned (.string (bs (zaE true q)))/\Kept w w' :=
 zAV q.1 q.2.1 q.2.2.1 q.2.2.2 w (by unfold zcQ at h;simp [zmS];omega)
theorem zi1 (w:World) (q:P4) (h:zcQ q<=10000):Calls Tryz.prog 136 #[p4V q] w fun e w'=>e=.returned (.string (bs (zaE false q)))/\Kept w w' :=
 zp1 q.1 q.2.1 q.2.2.1 q.2.2.2 w (by unfold zcQ at h;simp [zmS];omega)
theorem zeN (l:Bs):((zbV l).getD []).length<=6:=by
 unfold zbV;by_cases h1:l=lEn
 ·rw[if_pos h1];decide
 by_cases h2:l=lDe
 ·rw[if_neg h1,if_pos h2];decide
 by_cases h3:l=lFr
 ·rw[if_neg h1,if_neg h2,if_pos h3];decide
 by_cases h4:l=lEs
 ·rw[if_neg h1,if_neg h2,if_neg h3,if_pos h4];decide
 ·rw[if_neg h1,if_neg h2,if_neg h3,if_neg h4];decide
theorem zxR (v:Value) (ps:List P4) (l:Bs) (most:Int) (full:Bool) (w:World) (hv:Perss w v ps) (hN:ps.length<=900) (hq:∀ q∈ps,zcQ q<=10000) (L:Bs) (hL:((zb0 l).isSome=true/\L=l)\/((zb0 l).isSome=false/\L=lEn)) (hm1:1<=most) (hm2:most<ps.length) (hmr : -9223372036854775808<=most/\most<=9223372036854775807) :
  Calls Tryz.prog 119 #[v,.string (bs l),.int .i64 most,.bool full] w fun e w'=>e=.returned (.string (bs (Lib.join ((ps.take most.toNat).map (zaE full)) zdO ++ [32] ++ (zb0 L).getD [] ++ [32] ++ (zbV L).getD [])))/\Kept w w':=by
 obtain ⟨i0,hi,hz0,hz1,hz2⟩:=info_parts Tryz.infoStr;have HV:=Hd hv;have HQ:=Hd hq;clear hq;obtain ⟨a,c,rfl,hc,h3⟩:=hv;clear h3;obtain ⟨m,rfl⟩:∃ m:Nat,most=m:=⟨most.toNat,by omega⟩;obtain ⟨xs,hxs⟩:∃ xs,xs=ps.take m:=⟨_,rfl⟩;have hxl:xs.length=m:=(by rw[hxs];simp;omega);have HX:Hid (Perss w (.slice a m c) xs):=(by show Perss _ _ _;rw[hxs];exact HV.out.cut m (by omega));have HXQ:Hid (∀ q∈xs,zcQ q<=10000):=(by intro q h;rw[hxs] at h;exact HQ.out q (List.mem_of_mem_take h));have HE:Hid (Lib.join ((ps.take ((m:Int)).toNat).map (zaE full)) zdO=Lib.join (xs.map (zaE full)) zdO):=(by show _=_;rw[hxs];simp);have HLEN:=Hd hxl;have hml:m<=900:=(by omega);clear hxs hxl hc;have hc:m<=c:=(by obtain ⟨a',c',hv,hc,h3⟩:=HX.out;obtain ⟨_,h1,h2⟩:=Value.slice.inj hv;omega);have HA:=Hd (fun w=>zgO L 1 w);have HO:=Hd (fun w=>zsA L 2 w);have hal:=zeY L;have hol:=zeN L;have HSP:Hid (zdO=[44,32]):=rfl;generalize (zb0 L).getD []=an at *;generalize (zb0 L).isSome=an1 at *;generalize (zbV L).getD []=ot at *;generalize (zbV L).isSome=ot1 at *;have hm1':decide ((1:Int)<=(m:Int))=true:=(by simpa using hm1);have hm2':decide (m<ps.length)=true:=(by simp;omega);have hm3:1<=m:=(by omega);have hm4:m<ps.length:=(by omega);clear hm1 hm2 hmr;rcases hL with ⟨hk,hLe⟩|⟨hk,hLe⟩
 case' inl=>obtain ⟨an0,HT⟩:∃ an0,Hid (∀ w,Calls Tryz.prog 162 #[.string (bs l),.string (bs [97,110,100]),.int .i64 1] w fun e w'=>e=.returned (.tuple #[.string (bs an0),.bool true])/\Kept w w'):=⟨_,fun w=>by have:=zgO l 1 w;rw[hk] at this;exact this⟩
 case' inr=>obtain ⟨an0,HT⟩:∃ an0,Hid (∀ w,Calls Tryz.prog 162 #[.string (bs l),.string (bs [97,110,100]),.int .i64 1] w fun e w'=>e=.returned (.tuple #[.string (bs an0),.bool false])/\Kept w w'):=⟨_,fun w=>by have:=zgO l 1 w;rw[hk] at this;exact this⟩
 all_goals
  clear hk;subst hLe;go_enter Tryz.func119,Tryz.ntmps119;go_wp2_with fail;refine (HT.out _).mono ?_;rintro e w1 ⟨rfl,hk1⟩;have HK1:=Hd hk1;clear hk1;go_wp2_with fail
  (try simp only[zcO])
  go_loopw [12,40] (fun v i wr=>∃ (k:Nat),k<=m/\i=.int .i64 k/\wr.ownsRow w1.heap.size 9 1 v ((xs.take k).map (zaE full)).length (zaH ((xs.take k).map (zaE full)))/\Kept w1 wr) (fun _ i _=>m - (intOf i).toNat)
  case atStart=>exact ⟨0,Nat.zero_le _,rfl,World.ownsRow_nil _ _ _ _,Kept.refl _⟩
  case round =>
   obtain ⟨k,hkl,rfl,hown,hkr⟩:=hrel;by_cases hlt:k<m
   ·obtain ⟨q,hx⟩:∃ x,xs[k]? = some x:=⟨_,List.getElem?_eq_getElem (by rw[HLEN.out];exact hlt)⟩;obtain ⟨a',c',hv',hc',h3⟩:=(HX.out.kept HK1.out).kept hkr;obtain ⟨rfl,hdead,rfl⟩:=Value.slice.inj hv';clear hdead;obtain ⟨g,o,rfl,hg,hcc⟩:=h3 (by rw[HLEN.out];omega);obtain ⟨c0,c1,c2,c3⟩:=hcc k q hx;have hqs:=HXQ.out q (List.mem_of_getElem? hx);have HF:=Hd (map_take (zaE full) xs k q hx);have hfl:((xs.take k).map (zaE full)).length<=k:=(by simp;omega);generalize (xs.take k).map (zaE full)=ws at *;have hsz:w1.heap.size<=wr.heap.size:=hkr.size;have HR:=Hd hkr;have HW:=Hd hown;have HNF:=Hd (fun w=>zlE w q hqs);have HNS:=Hd (fun w=>zi1 w q hqs);clear hkr hx hown hcc h3 hv' hc';obtain ⟨qf,qg,qp,qs⟩:=q;simp only at c0 c1 c2 c3;cases full
    ·have HNAME:=HNS;clear HNF HNS;go_wp2_with fail;refine (HNAME.out _).mono ?_;rintro e w2 ⟨rfl,hk2⟩;generalize zaE false (qf,qg,qp,qs)=nm at *;have hown:=zaU (HW.out.alloc (.cells #[.string (bs qf),.string (bs qg),.string (bs qp),.string (bs qs)] 77)) hk2;have HR2:=Hd ((HR.out.trans (zaA wr _)).trans hk2);have hsz2:w1.heap.size<=w2.heap.size:=HR2.out.size;clear hk2;go_wp2_with (at_builtin;refine wpList_append_own _ rfl _ _ 29 rfl w1.heap.size 9 i0 (.string ⟨#[]⟩) 1 16 Tryz.underlying29 hi hz0 hz1 hz2 rfl (by decide) _ _ _ rfl (hown.alloc _) ⟨w2.heap.size,0,none⟩ 1 1 [.string (bs nm)] rfl rfl ?_ ?_ ?_ ?_ ?_ ?_)
     ·exact zaV _ #[.string (bs nm)] _ _ (by simp)
     ·intro u hu;simp at hu;subst hu;rfl
     ·unfold maxLen;omega
     ·omega
     ·simp;omega
     intro v' w3 hown2 hgrow _;have HB2:=Hd ((HR2.out.trans (zaA w2 _)).trans' (zaG (hown.alloc _) hgrow (by simp;omega)));rw[<- zaT] at hown2;have HO:=Hd hown2;clear hown2 hgrow hown;go_wp2_with fail;go_roundw
     case rel=>exact ⟨k+1,by omega,by go_num,by rw[HF.out];simpa using HO.out,HB2.out⟩
     case measure=>simp [intOf];omega
    ·have HNAME:=HNF;clear HNF HNS;go_wp2_with fail;refine (HNAME.out _).mono ?_;rintro e w2 ⟨rfl,hk2⟩;generalize zaE true (qf,qg,qp,qs)=nm at *;have hown:=zaU (HW.out.alloc (.cells #[.string (bs qf),.string (bs qg),.string (bs qp),.string (bs qs)] 77)) hk2;have HR2:=Hd ((HR.out.trans (zaA wr _)).trans hk2);have hsz2:w1.heap.size<=w2.heap.size:=HR2.out.size;clear hk2;go_wp2_with (at_builtin;refine wpList_append_own _ rfl _ _ 29 rfl w1.heap.size 9 i0 (.string ⟨#[]⟩) 1 16 Tryz.underlying29 hi hz0 hz1 hz2 rfl (by decide) _ _ _ rfl (hown.alloc _) ⟨w2.heap.size,0,none⟩ 1 1 [.string (bs nm)] rfl rfl ?_ ?_ ?_ ?_ ?_ ?_)
     ·exact zaV _ #[.string (bs nm)] _ _ (by simp)
     ·intro u hu;simp at hu;subst hu;rfl
     ·unfold maxLen;omega
     ·omega
     ·simp;omega
     intro v' w3 hown2 hgrow _;have HB2:=Hd ((HR2.out.trans (zaA w2 _)).trans' (zaG (hown.alloc _) hgrow (by simp;omega)));rw[<- zaT] at hown2;have HO:=Hd hown2;clear hown2 hgrow hown;go_wp2_with fail;go_roundw
     case rel=>exact ⟨k+1,by omega,by go_num,by rw[HF.out];simpa using HO.out,HB2.out⟩
     case measure=>simp [intOf];omega
   ·have HW:=Hd (Strs.own hown);have HR:=Hd (HK1.out.trans hkr);rw[List.take_of_length_le (by rw[HLEN.out];omega)] at HW;have hnl:(xs.map (zaE full)).length<=900:=(by rw[List.length_map,HLEN.out];exact hml);have hjl:=zcJ 10004 _ (zb4 full xs HXQ.out);have hjd:=zcJ 10004 (xs.map (zaE full)).dropLast (fun x hx=>zb4 full xs HXQ.out x ((List.dropLast_sublist _).subset hx));have hll:((xs.map (zaE full)).getLastD []).length<=10004:=by
     cases hq:(xs.map (zaE full)).getLast? with
     | none=>rw[List.getLastD_eq_getLast?,hq];simp
     | some y=>rw[List.getLastD_eq_getLast?,hq];exact zb4 full xs HXQ.out y (List.mem_of_getLast? hq)
    have hdl:(xs.map (zaE full)).dropLast.length<=900:=(by simp at hnl ⊢;omega);clear hown hkr;have hj1:(Lib.join (xs.map (zaE full)) zdO).length<=10000000:=by
     have:=Nat.mul_le_mul_right 10006 hnl;omega
    have hj2:(Lib.join (xs.map (zaE full)).dropLast zdO).length<=10000000:=by
     have:=Nat.mul_le_mul_right 10006 hdl;omega
    clear hjl hjd hdl;go_wp2_with fail;refine (HA.out _).mono ?_;rintro e w2 ⟨rfl,hk2⟩;have HR2:=Hd (HR.out.trans hk2);have HW2:=Hd (HW.out.kept hk2);clear hk2;go_wp2_with fail;refine (HO.out _).mono ?_;rintro e w3 ⟨rfl,hk3⟩;have HR3:=Hd (HR2.out.trans hk3);have HW3:=Hd (HW2.out.kept hk3);clear hk3;go_wp2_with fail;rw[<- HSP.out];refine (zd5 _ _ _ _ HW3.out (by omega) (by omega)).mono ?_;rintro e w4 ⟨rfl,hk4⟩;have HR4:=Hd (HR3.out.trans hk4);clear hk4;generalize Lib.join (xs.map (zaE full)) zdO=jj at *;go_wp2_with fail;go_ret;exact ⟨zb1 (by rw[HE.out];simp),HR4.out⟩
theorem zxS (v:Value) (ps:List P4) (l:Bs) (most:Int) (full:Bool) (w:World) (hv:Perss w v ps) (hN:ps.length<=900) (hq:∀ q∈ps,zcQ q<=10000) (L:Bs) (hL:((zb0 l).isSome=true/\L=l)\/((zb0 l).isSome=false/\L=lEn)) (hm:¬ (1<=most/\most<ps.length)) (hmr : -9223372036854775808<=most/\most<=9223372036854775807) :
  Calls Tryz.prog 119 #[v,.string (bs l),.int .i64 most,.bool full] w fun e w'=>e=.returned (.string (bs (zd4 L (ps.map (zaE full)))))/\Kept w w':=by
 obtain ⟨i0,hi,hz0,hz1,hz2⟩:=info_parts Tryz.infoStr;have HV:=Hd hv;have HQ:=Hd hq;clear hq;obtain ⟨a,c,rfl,hc,h3⟩:=hv;clear h3;obtain ⟨m,hm0⟩:∃ m:Nat,m=ps.length:=⟨_,rfl⟩;obtain ⟨xs,hxs⟩:∃ xs,xs=ps:=⟨_,rfl⟩;have HX:Hid (Perss w (.slice a m c) xs):=(by show Perss _ _ _;rw[hxs,hm0];exact HV.out);have HXQ:Hid (∀ q∈xs,zcQ q<=10000):=(by intro q h;rw[hxs] at h;exact HQ.out q h);have HE:Hid (ps=xs):=hxs.symm;have HLEN:Hid (xs.length=m):=(by show _=_;rw[hxs,hm0]);have hml:m<=900:=(by omega);rw[<- hm0] at hm hc;rw[<- hm0];clear hxs;have HM0:=Hd hm0;clear hm0 hN;have HLS:=Hd (zxD L);rcases hL with ⟨hk,hLe⟩|⟨hk,hLe⟩
 case' inl=>obtain ⟨an0,HT⟩:∃ an0,Hid (∀ w,Calls Tryz.prog 162 #[.string (bs l),.string (bs [97,110,100]),.int .i64 1] w fun e w'=>e=.returned (.tuple #[.string (bs an0),.bool true])/\Kept w w'):=⟨_,fun w=>by have:=zgO l 1 w;rw[hk] at this;exact this⟩
 case' inr=>obtain ⟨an0,HT⟩:∃ an0,Hid (∀ w,Calls Tryz.prog 162 #[.string (bs l),.string (bs [97,110,100]),.int .i64 1] w fun e w'=>e=.returned (.tuple #[.string (bs an0),.bool false])/\Kept w w'):=⟨_,fun w=>by have:=zgO l 1 w;rw[hk] at this;exact this⟩
 all_goals
  clear hk;subst hLe;by_cases hm1:1<=most
  ·have hm1':decide ((1:Int)<=most)=true:=(by simpa using hm1);have hm2':decide (most<(m:Int))=false:=(by simp;omega);have hm3:¬ most<(m:Int):=(by omega);clear hm;go_enter Tryz.func119,Tryz.ntmps119;go_wp2_with fail;refine (HT.out _).mono ?_;rintro e w1 ⟨rfl,hk1⟩;have HK1:=Hd hk1;clear hk1;go_wp2_with fail
   (try simp only[zcO])
   go_loopw [12,40] (fun v i wr=>∃ (k:Nat),k<=m/\i=.int .i64 k/\wr.ownsRow w1.heap.size 9 1 v ((xs.take k).map (zaE full)).length (zaH ((xs.take k).map (zaE full)))/\Kept w1 wr) (fun _ i _=>m - (intOf i).toNat)
   case atStart=>exact ⟨0,Nat.zero_le _,rfl,World.ownsRow_nil _ _ _ _,Kept.refl _⟩
   case round =>
    obtain ⟨k,hkl,rfl,hown,hkr⟩:=hrel;by_cases hlt:k<m
    ·obtain ⟨q,hx⟩:∃ x,xs[k]? = some x:=⟨_,List.getElem?_eq_getElem (by rw[HLEN.out];exact hlt)⟩;obtain ⟨a',c',hv',hc',h3⟩:=(HX.out.kept HK1.out).kept hkr;obtain ⟨rfl,hdead,rfl⟩:=Value.slice.inj hv';clear hdead;obtain ⟨g,o,rfl,hg,hcc⟩:=h3 (by rw[HLEN.out];omega);obtain ⟨c0,c1,c2,c3⟩:=hcc k q hx;have hqs:=HXQ.out q (List.mem_of_getElem? hx);have HF:=Hd (map_take (zaE full) xs k q hx);have hfl:((xs.take k).map (zaE full)).length<=k:=(by simp;omega);generalize (xs.take k).map (zaE full)=ws at *;have hsz:w1.heap.size<=wr.heap.size:=hkr.size;have HR:=Hd hkr;have HW:=Hd hown;have HNF:=Hd (fun w=>zlE w q hqs);have HNS:=Hd (fun w=>zi1 w q hqs);clear hkr hx hown hcc h3 hv' hc';obtain ⟨qf,qg,qp,qs⟩:=q;simp only at c0 c1 c2 c3;cases full
     ·have HNAME:=HNS;clear HNF HNS;go_wp2_with fail;refine (HNAME.out _).mono ?_;rintro e w2 ⟨rfl,hk2⟩;generalize zaE false (qf,qg,qp,qs)=nm at *;have hown:=zaU (HW.out.alloc (.cells #[.string (bs qf),.string (bs qg),.string (bs qp),.string (bs qs)] 77)) hk2;have HR2:=Hd ((HR.out.trans (zaA wr _)).trans hk2);have hsz2:w1.heap.size<=w2.heap.size:=HR2.out.size;clear hk2;go_wp2_with (at_builtin;refine wpList_append_own _ rfl _ _ 29 rfl w1.heap.size 9 i0 (.string ⟨#[]⟩) 1 16 Tryz.underlying29 hi hz0 hz1 hz2 rfl (by decide) _ _ _ rfl (hown.alloc _) ⟨w2.heap.size,0,none⟩ 1 1 [.string (bs nm)] rfl rfl ?_ ?_ ?_ ?_ ?_ ?_)
      ·exact zaV _ #[.string (bs nm)] _ _ (by simp)
      ·intro u hu;simp at hu;subst hu;rfl
      ·unfold maxLen;omega
      ·omega
      ·simp;omega
      intro v' w3 hown2 hgrow _;have HB2:=Hd ((HR2.out.trans (zaA w2 _)).trans' (zaG (hown.alloc _) hgrow (by simp;omega)));rw[<- zaT] at hown2;have HO:=Hd hown2;clear hown2 hgrow hown;go_wp2_with fail;go_roundw
      case rel=>exact ⟨k+1,by omega,by go_num,by rw[HF.out];simpa using HO.out,HB2.out⟩
      case measure=>simp [intOf];omega
     ·have HNAME:=HNF;clear HNF HNS;go_wp2_with fail;refine (HNAME.out _).mono ?_;rintro e w2 ⟨rfl,hk2⟩;generalize zaE true (qf,qg,qp,qs)=nm at *;have hown:=zaU (HW.out.alloc (.cells #[.string (bs qf),.string (bs qg),.string (bs qp),.string (bs qs)] 77)) hk2;have HR2:=Hd ((HR.out.trans (zaA wr _)).trans hk2);have hsz2:w1.heap.size<=w2.heap.size:=HR2.out.size;clear hk2;go_wp2_with (at_builtin;refine wpList_append_own _ rfl _ _ 29 rfl w1.heap.size 9 i0 (.string ⟨#[]⟩) 1 16 Tryz.underlying29 hi hz0 hz1 hz2 rfl (by decide) _ _ _ rfl (hown.alloc _) ⟨w2.heap.size,0,none⟩ 1 1 [.string (bs nm)] rfl rfl ?_ ?_ ?_ ?_ ?_ ?_)
      ·exact zaV _ #[.string (bs nm)] _ _ (by simp)
      ·intro u hu;simp at hu;subst hu;rfl
      ·unfold maxLen;omega
      ·omega
      ·simp;omega
      intro v' w3 hown2 hgrow _;have HB2:=Hd ((HR2.out.trans (zaA w2 _)).trans' (zaG (hown.alloc _) hgrow (by simp;omega)));rw[<- zaT] at hown2;have HO:=Hd hown2;clear hown2 hgrow hown;go_wp2_with fail;go_roundw
      case rel=>exact ⟨k+1,by omega,by go_num,by rw[HF.out];simpa using HO.out,HB2.out⟩
      case measure=>simp [intOf];omega
    ·have HW:=Hd (Strs.own hown);have HR:=Hd (HK1.out.trans hkr);rw[List.take_of_length_le (by rw[HLEN.out];omega)] at HW;have hnl:(xs.map (zaE full)).length<=900:=(by rw[List.length_map,HLEN.out];exact hml);have hjl:=zcJ 10004 _ (zb4 full xs HXQ.out);have hjd:=zcJ 10004 (xs.map (zaE full)).dropLast (fun x hx=>zb4 full xs HXQ.out x ((List.dropLast_sublist _).subset hx));have hll:((xs.map (zaE full)).getLastD []).length<=10004:=by
      cases hq:(xs.map (zaE full)).getLast? with
      | none=>rw[List.getLastD_eq_getLast?,hq];simp
      | some y=>rw[List.getLastD_eq_getLast?,hq];exact zb4 full xs HXQ.out y (List.mem_of_getLast? hq)
     have hdl:(xs.map (zaE full)).dropLast.length<=900:=(by simp at hnl ⊢;omega);clear hown hkr;have hj1:(Lib.join (xs.map (zaE full)) zdO).length<=10000000:=by
      have:=Nat.mul_le_mul_right 10006 hnl;omega
     have hj2:(Lib.join (xs.map (zaE full)).dropLast zdO).length<=10000000:=by
      have:=Nat.mul_le_mul_right 10006 hdl;omega
     clear hjl hjd hdl;go_wp2_with fail;refine (HLS.out _ _ _ HW.out (by omega) hj1 hj2 (by omega)).mono ?_;rintro e w2 ⟨rfl,hk2⟩;have HR2:=Hd (HR.out.trans hk2);clear hk2;go_wp2_with fail;go_ret;exact ⟨zb1 (by rw[HE.out]),HR2.out⟩
  ·have hm1':decide ((1:Int)<=most)=false:=(by simpa using hm1);clear hm;go_enter Tryz.func119,Tryz.ntmps119;go_wp2_with fail;refine (HT.out _).mono ?_;rintro e w1 ⟨rfl,hk1⟩;have HK1:=Hd hk1;clear hk1;go_wp2_with fail
   (try simp only[zcO])
   go_loopw [12,40] (fun v i wr=>∃ (k:Nat),k<=m/\i=.int .i64 k/\wr.ownsRow w1.heap.size 9 1 v ((xs.take k).map (zaE full)).length (zaH ((xs.take k).map (zaE full)))/\Kept w1 wr) (fun _ i _=>m - (intOf i).toNat)
   case atStart=>exact ⟨0,Nat.zero_le _,rfl,World.ownsRow_nil _ _ _ _,Kept.refl _⟩
   case round =>
    obtain ⟨k,hkl,rfl,hown,hkr⟩:=hrel;by_cases hlt:k<m
    ·obtain ⟨q,hx⟩:∃ x,xs[k]? = some x:=⟨_,List.getElem?_eq_getElem (by rw[HLEN.out];exact hlt)⟩;obtain ⟨a',c',hv',hc',h3⟩:=(HX.out.kept HK1.out).kept hkr;obtain ⟨rfl,hdead,rfl⟩:=Value.slice.inj hv';clear hdead;obtain ⟨g,o,rfl,hg,hcc⟩:=h3 (by rw[HLEN.out];omega);obtain ⟨c0,c1,c2,c3⟩:=hcc k q hx;have hqs:=HXQ.out q (List.mem_of_getElem? hx);have HF:=Hd (map_take (zaE full) xs k q hx);have hfl:((xs.take k).map (zaE full)).length<=k:=(by simp;omega);generalize (xs.take k).map (zaE full)=ws at *;have hsz:w1.heap.size<=wr.heap.size:=hkr.size;have HR:=Hd hkr;have HW:=Hd hown;have HNF:=Hd (fun w=>zlE w q hqs);have HNS:=Hd (fun w=>zi1 w q hqs);clear hkr hx hown hcc h3 hv' hc';obtain ⟨qf,qg,qp,qs⟩:=q;simp only at c0 c1 c2 c3;cases full
     ·have HNAME:=HNS;clear HNF HNS;go_wp2_with fail;refine (HNAME.out _).mono ?_;rintro e w2 ⟨rfl,hk2⟩;generalize zaE false (qf,qg,qp,qs)=nm at *;have hown:=zaU (HW.out.alloc (.cells #[.string (bs qf),.string (bs qg),.string (bs qp),.string (bs qs)] 77)) hk2;have HR2:=Hd ((HR.out.trans (zaA wr _)).trans hk2);have hsz2:w1.heap.size<=w2.heap.size:=HR2.out.size;clear hk2;go_wp2_with (at_builtin;refine wpList_append_own _ rfl _ _ 29 rfl w1.heap.size 9 i0 (.string ⟨#[]⟩) 1 16 Tryz.underlying29 hi hz0 hz1 hz2 rfl (by decide) _ _ _ rfl (hown.alloc _) ⟨w2.heap.size,0,none⟩ 1 1 [.string (bs nm)] rfl rfl ?_ ?_ ?_ ?_ ?_ ?_)
      ·exact zaV _ #[.string (bs nm)] _ _ (by simp)
      ·intro u hu;simp at hu;subst hu;rfl
      ·unfold maxLen;omega
      ·omega
      ·simp;omega
      intro v' w3 hown2 hgrow _;have HB2:=Hd ((HR2.out.trans (zaA w2 _)).trans' (zaG (hown.alloc _) hgrow (by simp;omega)));rw[<- zaT] at hown2;have HO:=Hd hown2;clear hown2 hgrow hown;go_wp2_with fail;go_roundw
      case rel=>exact ⟨k+1,by omega,by go_num,by rw[HF.out];simpa using HO.out,HB2.out⟩
      case measure=>simp [intOf];omega
     ·have HNAME:=HNF;clear HNF HNS;go_wp2_with fail;refine (HNAME.out _).mono ?_;rintro e w2 ⟨rfl,hk2⟩;generalize zaE true (qf,qg,qp,qs)=nm at *;have hown:=zaU (HW.out.alloc (.cells #[.string (bs qf),.string (bs qg),.string (bs qp),.string (bs qs)] 77)) hk2;have HR2:=Hd ((HR.out.trans (zaA wr _)).trans hk2);have hsz2:w1.heap.size<=w2.heap.size:=HR2.out.size;clear hk2;go_wp2_with (at_builtin;refine wpList_append_own _ rfl _ _ 29 rfl w1.heap.size 9 i0 (.string ⟨#[]⟩) 1 16 Tryz.underlying29 hi hz0 hz1 hz2 rfl (by decide) _ _ _ rfl (hown.alloc _) ⟨w2.heap.size,0,none⟩ 1 1 [.string (bs nm)] rfl rfl ?_ ?_ ?_ ?_ ?_ ?_)
      ·exact zaV _ #[.string (bs nm)] _ _ (by simp)
      ·intro u hu;simp at hu;subst hu;rfl
      ·unfold maxLen;omega
      ·omega
      ·simp;omega
      intro v' w3 hown2 hgrow _;have HB2:=Hd ((HR2.out.trans (zaA w2 _)).trans' (zaG (hown.alloc _) hgrow (by simp;omega)));rw[<- zaT] at hown2;have HO:=Hd hown2;clear hown2 hgrow hown;go_wp2_with fail;go_roundw
      case rel=>exact ⟨k+1,by omega,by go_num,by rw[HF.out];simpa using HO.out,HB2.out⟩
      case measure=>simp [intOf];omega
    ·have HW:=Hd (Strs.own hown);have HR:=Hd (HK1.out.trans hkr);rw[List.take_of_length_le (by rw[HLEN.out];omega)] at HW;have hnl:(xs.map (zaE full)).length<=900:=(by rw[List.length_map,HLEN.out];exact hml);have hjl:=zcJ 10004 _ (zb4 full xs HXQ.out);have hjd:=zcJ 10004 (xs.map (zaE full)).dropLast (fun x hx=>zb4 full xs HXQ.out x ((List.dropLast_sublist _).subset hx));have hll:((xs.map (zaE full)).getLastD []).length<=10004:=by
      cases hq:(xs.map (zaE full)).getLast? with
      | none=>rw[List.getLastD_eq_getLast?,hq];simp
      | some y=>rw[List.getLastD_eq_getLast?,hq];exact zb4 full xs HXQ.out y (List.mem_of_getLast? hq)
     have hdl:(xs.map (zaE full)).dropLast.length<=900:=(by simp at hnl ⊢;omega);clear hown hkr;have hj1:(Lib.join (xs.map (zaE full)) zdO).length<=10000000:=by
      have:=Nat.mul_le_mul_right 10006 hnl;omega
     have hj2:(Lib.join (xs.map (zaE full)).dropLast zdO).length<=10000000:=by
      have:=Nat.mul_le_mul_right 10006 hdl;omega
     clear hjl hjd hdl;go_wp2_with fail;refine (HLS.out _ _ _ HW.out (by omega) hj1 hj2 (by omega)).mono ?_;rintro e w2 ⟨rfl,hk2⟩;have HR2:=Hd (HR.out.trans hk2);clear hk2;go_wp2_with fail;go_ret;exact ⟨zb1 (by rw[HE.out]),HR2.out⟩
theorem zh2 (v:Value) (ps:List P4) (l:Bs) (most:Int) (full:Bool) (w:World) (hv:Perss w v ps) (hN:ps.length<=900) (hq:∀ q∈ps,zcQ q<=10000) (hmr : -9223372036854775808<=most/\most<=9223372036854775807) :
  Calls Tryz.prog 119 #[v,.string (bs l),.int .i64 most,.bool full] w fun e w'=>e=.returned (.string (bs (zcN ps l most full)))/\Kept w w':=by
 unfold zcN zlD;cases hk:(zb0 l).isSome
 ·by_cases hm:1<=most/\most<ps.length
  ·rw[if_pos hm];exact zxR v ps l most full w hv hN hq lEn (.inr ⟨hk,rfl⟩) hm.1 hm.2 hmr
  ·rw[if_neg hm];exact zxS v ps l most full w hv hN hq lEn (.inr ⟨hk,rfl⟩) hm hmr
 ·by_cases hm:1<=most/\most<ps.length
  ·rw[if_pos hm];exact zxR v ps l most full w hv hN hq l (.inl ⟨hk,rfl⟩) hm.1 hm.2 hmr
  ·rw[if_neg hm];exact zxS v ps l most full w hv hN hq l (.inl ⟨hk,rfl⟩) hm hmr
structure Only (S:Nat->Prop) (w w':World):Prop where
 os:w'.os=w.os
 tape:w'.tape=w.tape
 output:w'.output=w.output
 size:w.heap.size<=w'.heap.size
 block:∀ k,k<w.heap.size->¬ S k->w'.heap[k]? = w.heap[k]?
theorem Only.of_kept {S:Nat->Prop} {w w':World} (h:Kept w w'):Only S w w':=⟨h.os,h.tape,h.output,h.size,fun k hk _=>h.block k hk⟩
theorem Only.trans {S:Nat->Prop} {a b c:World} (h:Only S a b) (k:Only S b c):Only S a c :=
 ⟨k.os.trans h.os,k.tape.trans h.tape,k.output.trans h.output,Nat.le_trans h.size k.size,fun i hi hs=>(k.block i (Nat.lt_of_lt_of_le hi h.size) hs).trans (h.block i hi hs)⟩
theorem Only.mono {S S':Nat->Prop} {w w':World} (h:Only S w w') (k:∀ i,i<w.heap.size->S i->S' i):Only S' w w' :=
 ⟨h.os,h.tape,h.output,h.size,fun i hi hs=>h.block i hi (fun q=>hs (k i hi q))⟩
theorem Only.grown {w w':World} {row:Option Nat} (h:w.grownBy w' row):Only (fun i=>some i=row) w w':=⟨h.os,h.tape,h.output,h.size,fun k hk hs=>h.block k hk hs⟩
theorem Only.setCell {w:World} (g o:Nat) (v:Value):Only (fun i=>i=g) w (w.setCell ⟨g,o,none⟩ v) :=
 ⟨rfl,rfl,rfl,by simp [World.setCell],fun k hk hs=>by simp [World.setCell,Array.getElem?_modify,Ne.symm hs]⟩
theorem Only.below {S:Nat->Prop} {w w':World} {B:Nat} (h:Only S w w') (hB:B<=w.heap.size) (hS:∀ i,S i->B<=i):Below B w w' :=
 ⟨h.os,h.tape,h.output,h.size,fun k hk=>h.block k (by omega) (fun q=>by have:=hS k q;omega)⟩
theorem Only.cell {S:Nat->Prop} {w w':World} (h:Only S w w') (g o:Nat) (hg:g<w.heap.size) (hs:¬ S g):w'.cell? ⟨g,o,none⟩=w.cell? ⟨g,o,none⟩:=World.cell?_of_block (a:=⟨g,o,none⟩) (h.block g hg hs)
theorem Only.own {S:Nat->Prop} {w w':World} {base:Nat} {e:TypeId} {size:Nat} {v:Value} {n:Nat} {xs:List Value} (h:Only S w w') (ho:w.ownsRow base e size v n xs) (hs:∀ g,v.ownBlock=some g->¬ S g):w'.ownsRow base e size v n xs:=by
 obtain ⟨h1,h2⟩:=ho;refine ⟨h1,?_⟩;rcases h2 with h2|⟨g,cap,cur,hv,hg,hh,r⟩
 ·exact .inl h2
 ·have hlt:g<w.heap.size:=by
   rcases Nat.lt_or_ge g w.heap.size with q|q
   ·exact q
   ·rw[Array.getElem?_eq_none q] at hh;cases hh
  exact .inr ⟨g,cap,cur,hv,hg,by rw[h.block g hlt (hs g (by rw[hv];rfl))];exact hh,r⟩
end Go.Proofs.YtmcoomlkbgiboaaGreatDoor
