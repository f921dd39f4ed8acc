/- rank of publisherref25. Conditions: lengths. -/
import Derived.Test.YtmcoomlkbgiboaaGreatDoorV16
import Derived.Test.YtmcoomlkbgiboaaGreatDoorV17
import Derived.Test.YtmcoomlkbgiboaaGreatDoorV28
import Derived.Test.YtmcoomlkbgiboaaGreatDoorV15
import Derived.Deep.RegionHeld3
import Derived.Laws.Cover1
set_option linter.all false
set_option maxRecDepth 100000
set_option maxHeartbeats 6400000
namespace Go.Proofs.YtmcoomlkbgiboaaGreatDoor
open Go.RowKit
def zA7 (c:ColT) (x:Int) (k:Nat):Int:=match (c.order.drop k).findIdx? fun s=>(zcR s).contains x with
 | some i=>((k+i:Nat):Int)+1
 | none=>(c.order.length:Int)+1+x
theorem zA8 (c:ColT) (x:Int) (h:x≠32):zc5 c x=zA7 c x 0:=by
 unfold zc5 zA7 zDF;rw[if_neg h,List.drop_zero];cases c.order.findIdx? fun s=>(zcR s).contains x <;> simp
theorem zsH {c:ColT} {k:Nat} {s:Bs} (h:c.order[k]? = some s):c.order.drop k=s :: c.order.drop (k+1):=by
 obtain ⟨hk,rfl⟩:=List.getElem?_eq_some_iff.1 h;exact List.drop_eq_getElem_cons hk
theorem zDl (c:ColT) (x:Int) (k:Nat) (s:Bs) (h:c.order[k]? = some s) (hc:(zcR s).contains x=true):zA7 c x k=(k:Int)+1:=by
 unfold zA7;rw[zsH h,List.findIdx?_cons,if_pos hc];simp
theorem zA9 (c:ColT) (x:Int) (k:Nat) (s:Bs) (h:c.order[k]? = some s) (hc:(zcR s).contains x=false):zA7 c x k=zA7 c x (k+1):=by
 unfold zA7;rw[zsH h,List.findIdx?_cons,if_neg (by rw[hc];simp)];cases (c.order.drop (k+1)).findIdx? fun s=>(zcR s).contains x with
 | none=>rfl
 | some i=>simp;omega
theorem zDm (c:ColT) (x:Int) (k:Nat) (h:¬ k<c.order.length):zA7 c x k=(c.order.length:Int)+1+x:=by
 unfold zA7;rw[List.drop_of_length_le (by omega)];rfl
theorem zBa (vR vO:Value) (c:ColT) (x:Int) (w:World) (hv:Col w vR vO c) (hs:SmallC c) (hx0:0<=x) (hx1:x<=1114111) :
  Calls Tryz.prog 198 #[zmZ vR vO c.ignore,.int .i64 x] w fun e w'=>e=.returned (.int .i64 (zc5 c x))/\Kept w w':=by
 obtain ⟨hR,hO⟩:=hv;obtain ⟨s1,s2,s3,s4,s5⟩:=hs;have HS4:=Hd s4;clear s4 s5;have HO:=Hd hO;obtain ⟨aR,cR,rfl,lR⟩:=hR.form;obtain ⟨aO,cO,rfl,lO⟩:=hO.form;clear hR hO;have HB1:=Hd (Blk.new w 88 #[.slice aR c.ranks.length cR,.slice aO c.order.length cO,.string (bs c.ignore)]);have HK:=Hd (zaA w (.cells #[.slice aR c.ranks.length cR,.slice aO c.order.length cO,.string (bs c.ignore)] 88));by_cases hx:x=32
 ·have HE:Hid (zc5 c x=0):=(by show _=_;unfold zc5;rw[if_pos hx]);rw[HE.out];subst hx;clear HE;go_enter Tryz.func198,Tryz.ntmps198;go_wp2_with fail;go_ret;exact ⟨rfl,HK.out⟩
 have hx':(x == 32)=false:=(by simpa using hx);have H0:=Hd (zA8 c x hx);have HHIT:=Hd (zDl c x);have HMISS:=Hd (zA9 c x);have HEND:=Hd (zDm c x);obtain ⟨R,HR⟩:∃ R,Hid (zc5 c x=R):=⟨_,rfl⟩;rw[HR.out] at H0 ⊢;clear HR hx;go_enter Tryz.func198,Tryz.ntmps198;go_wp2_with fail;generalize w.alloc (.cells #[.slice aR c.ranks.length cR,.slice aO c.order.length cO,.string (bs c.ignore)] 88)=w0 at *;generalize w.heap.size=B at *;go_loopw [5] (fun i wr=>∃ k:Nat,k<=c.order.length/\i=.int .i64 k/\Hid (R=zA7 c x k)/\Hid (Kept w0 wr)) (fun i _=>c.order.length - (intOf i).toNat)
 case atStart=>exact ⟨0,Nat.zero_le _,rfl,H0.out,Kept.refl _⟩
 case round =>
  obtain ⟨k,hk,rfl,HA,HKR⟩:=hrel;have b1:wr.cell? ⟨B,1,none⟩=some (.slice aO c.order.length cO):=(HB1.out.kept HKR.out).cell 1 _ rfl;have z1:=(HB1.out.kept HKR.out).lt;by_cases hlt:k<c.order.length
  ·obtain ⟨s,hx⟩:∃ x,c.order[k]? = some x:=⟨_,List.getElem?_eq_getElem hlt⟩;obtain ⟨g,o,rfl,hg,d0,-,-⟩:=(HO.out.kept (HK.out.trans HKR.out)).cell_of k s hx;have hsl:=HS4.out s (List.mem_of_getElem? hx);have HLT:=Hd (fun w=>zeM s w (by omega));have hpl:=zd8 s;have H1:=Hd (HHIT.out k s hx);have H2:=Hd (HMISS.out k s hx);clear hx;generalize zcR s=L at *;go_wp2_with fail;refine (HLT.out _).mono ?_;rintro e w2 ⟨v2,rfl,hi2,hk2⟩;have HI2:=Hd hi2;obtain ⟨a2,c2,rfl,-⟩:=hi2.form;have HK2:=Hd (HKR.out.trans hk2);clear hi2 hk2;go_wp2_with fail;refine (zy9 _ L x _ HI2.out (by omega)).mono ?_;rintro e w3 ⟨rfl,rfl⟩;generalize L.contains x=bb at *;cases bb with
   | true =>
    have HE:Hid (R=(k:Int)+1):=HA.out.trans (H1.out rfl);go_wp2_with fail;go_ret;exact ⟨zaG HE.out.symm,HK.out.trans HK2.out⟩
   | false =>
    have HE:Hid (R=zA7 c x (k+1)):=HA.out.trans (H2.out rfl);clear b1 z1;go_wp2_with fail;go_roundw
    case rel=>exact ⟨k+1,by omega,by go_num,HE.out,HK2.out⟩
    case measure=>simp [intOf];omega
  ·have HE:Hid (R=(c.order.length:Int)+1+x):=HA.out.trans (HEND.out k hlt);go_wp2_with fail;go_ret;exact ⟨zaG HE.out.symm,HK.out.trans HKR.out⟩
def zxT (c:ColT) (x:Int) (k:Nat):Option (List Int):=((c.ranks.drop k).find? fun p=>zcR p.1 == [x]).map fun p=>zcR p.2
theorem zBb (c:ColT) (x:Int):zj8 c x=zxT c x 0:=rfl
theorem zsI {c:ColT} {k:Nat} {p:Pr} (h:c.ranks[k]? = some p):c.ranks.drop k=p :: c.ranks.drop (k+1):=by
 obtain ⟨hk,rfl⟩:=List.getElem?_eq_some_iff.1 h;exact List.drop_eq_getElem_cons hk
theorem zDn (c:ColT) (x:Int) (k:Nat) (p:Pr) (h:c.ranks[k]? = some p) (hc:zcR p.1=[x]):zxT c x k=some (zcR p.2):=by
 unfold zxT;rw[zsI h,List.find?_cons_of_pos (by simpa using hc)];rfl
theorem zBc (c:ColT) (x:Int) (k:Nat) (p:Pr) (h:c.ranks[k]? = some p) (hc:zcR p.1≠[x]):zxT c x k=zxT c x (k+1):=by
 unfold zxT;rw[zsI h,List.find?_cons_of_neg (by simpa using hc)]
theorem zDo (c:ColT) (x:Int) (k:Nat) (h:¬ k<c.ranks.length):zxT c x k=none:=by
 unfold zxT;rw[List.drop_of_length_le (by omega)];rfl
def ValP (r:Option (List Int)) (w:World) (e:Ending) (w':World):Prop:=∃ v,e=.returned (.tuple #[v,.bool r.isSome])/\Ints w' v (r.getD [])/\(∀ g,v.ownBlock=.some g->w.heap.size<=g)/\Kept w w'
theorem ValP.some {xs:List Int} {w w':World} {v:Value} {r:Option (List Int)} (h:r=.some xs) (hi:Ints w' v xs) (ho:∀ g,v.ownBlock=.some g->w.heap.size<=g) (k:Kept w w'):ValP r w (.returned (.tuple #[v,.bool true])) w':=by
 subst h;exact ⟨v,rfl,hi,ho,k⟩
theorem ValP.none {w w':World} {r:Option (List Int)} (h:r=.none) (k:Kept w w'):ValP r w (.returned (.tuple #[.slice .none 0 0,.bool false])) w':=by
 subst h;exact ⟨_,rfl,⟨.none,0,rfl,Nat.le_refl _,fun q=>absurd q (by simp)⟩,(fun g hg=>by cases hg),k⟩
theorem zxG (vR vO:Value) (c:ColT) (x:Int) (w:World) (hv:Col w vR vO c) (hs:SmallC c) (hx0:0<=x) (hx1:x<=1114111) :
  Calls Tryz.prog 197 #[zmZ vR vO c.ignore,.int .i64 x] w (ValP (zj8 c x) w):=by
 obtain ⟨hR,hO⟩:=hv;obtain ⟨s1,s2,s3,s4,s5⟩:=hs;have HS5:=Hd s5;clear s4 s5;have HR:=Hd hR;obtain ⟨aR,cR,rfl,lR⟩:=hR.form;obtain ⟨aO,cO,rfl,lO⟩:=hO.form;clear hR hO;have HB1:=Hd (Blk.new w 88 #[.slice aR c.ranks.length cR,.slice aO c.order.length cO,.string (bs c.ignore)]);have HK:=Hd (zaA w (.cells #[.slice aR c.ranks.length cR,.slice aO c.order.length cO,.string (bs c.ignore)] 88));have H0:=Hd (zBb c x);have HHIT:=Hd (zDn c x);have HMISS:=Hd (zBc c x);have HEND:=Hd (zDo c x);obtain ⟨R,HRR⟩:∃ R,Hid (zj8 c x=R):=⟨_,rfl⟩;rw[HRR.out] at H0 ⊢;clear HRR;go_enter Tryz.func197,Tryz.ntmps197;go_wp2_with fail;generalize w.alloc (.cells #[.slice aR c.ranks.length cR,.slice aO c.order.length cO,.string (bs c.ignore)] 88)=w0 at *;generalize w.heap.size=B at *;go_loopw [6] (fun i wr=>∃ k:Nat,k<=c.ranks.length/\i=.int .i64 k/\Hid (R=zxT c x k)/\Hid (Kept w0 wr)) (fun i _=>c.ranks.length - (intOf i).toNat)
 case atStart=>exact ⟨0,Nat.zero_le _,rfl,H0.out,Kept.refl _⟩
 case round =>
  obtain ⟨k,hk,rfl,HA,HKR⟩:=hrel;have b1:wr.cell? ⟨B,0,none⟩=some (.slice aR c.ranks.length cR):=(HB1.out.kept HKR.out).cell 0 _ rfl;have z1:=(HB1.out.kept HKR.out).lt;by_cases hlt:k<c.ranks.length
  ·obtain ⟨p,hx⟩:∃ x,c.ranks[k]? = some x:=⟨_,List.getElem?_eq_getElem hlt⟩;obtain ⟨g,o,rfl,hg,d0,d1,-,-⟩:=(HR.out.kept (HK.out.trans HKR.out)).cell_of k p hx;obtain ⟨hsl1,hsl2⟩:=HS5.out p (List.mem_of_getElem? hx);have HLT:=Hd (fun w=>zeM p.1 w (by omega));have HLT2:=Hd (fun w=>zkB p.2 w (by omega));have hpl:=zd8 p.1;have H1:=Hd (HHIT.out k p hx);have H2:=Hd (HMISS.out k p hx);have HCC:Hid (∀ w',Kept wr w'->(w'.cell? ⟨B,0,none⟩=some (.slice (some ⟨g,o,none⟩) c.ranks.length cR)/\B<w'.heap.size)/\w'.cell? ⟨g,o+k * 2+1,none⟩=some (.string (bs p.2))/\g<w'.heap.size):=fun w' h =>
    ⟨⟨(h.cell (p:=⟨B,0,none⟩) z1).trans b1,Nat.lt_of_lt_of_le z1 h.size⟩,(h.cell (p:=⟨g,o+k * 2+1,none⟩) hg).trans d1,Nat.lt_of_lt_of_le hg h.size⟩
   clear hx;generalize zcR p.1=L at *;generalize zcR p.2=L2 at *;go_wp2_with fail;refine (HLT.out _).mono ?_;rintro e w2 ⟨v2,rfl,hi2,hk2⟩;have HI2:=Hd hi2;obtain ⟨a2,c2,rfl,-⟩:=hi2.form;have HK2:=Hd (HKR.out.trans hk2);obtain ⟨⟨b1',z1'⟩,d1',hg'⟩:=HCC.out _ hk2;clear hi2 hk2 b1 z1 d0 d1 hg HCC
   match L with
   | [] =>
    have HE:Hid (R=zxT c x (k+1)):=HA.out.trans (H2.out (by simp));clear b1' z1' d1' hg';go_wp2_with fail;go_roundw
    case rel=>exact ⟨k+1,by omega,by go_num,HE.out,HK2.out⟩
    case measure=>simp [intOf];omega
   | [y] =>
    obtain ⟨g2,o2,rfl,hg2,e0⟩:=HI2.out.cell_of 0 y rfl;simp only[Nat.add_zero] at e0;by_cases hy:y=x
    ·subst hy;have HE:Hid (R=some L2):=HA.out.trans (H1.out rfl);go_wp2_with fail;refine (HLT2.out _).mono ?_;rintro e w3 ⟨v3,rfl,hi3,ho3,hk3⟩;have HI3:=Hd hi3;have HO3:=Hd (fun g hg=>Nat.le_trans (HK.out.trans HK2.out).size (ho3 g hg));obtain ⟨a3,c3,rfl,-⟩:=hi3.form;have HK3:=Hd (HK2.out.trans hk3);clear hi3 ho3 hk3;go_wp2_with fail;go_ret2;exact ValP.some HE.out HI3.out HO3.out (HK.out.trans HK3.out)
    ·have hy':(y == x)=false:=(by simpa using hy);have HE:Hid (R=zxT c x (k+1)):=HA.out.trans (H2.out (by simpa using hy));clear b1' z1' d1' hg';go_wp2_with fail;go_roundw
     case rel=>exact ⟨k+1,by omega,by go_num,HE.out,HK2.out⟩
     case measure=>simp [intOf];omega
   | y :: z :: r =>
    have HE:Hid (R=zxT c x (k+1)):=HA.out.trans (H2.out (by simp));have hne:((r.length:Int)+1+1 == 1)=false:=(by rw[beq_eq_false_iff_ne];omega);clear b1' z1' d1' hg';simp only[List.length_cons];go_wp2_with fail;go_roundw
    case rel=>exact ⟨k+1,by omega,by go_num,HE.out,HK2.out⟩
    case measure=>simp [intOf];omega
  ·have HE:Hid (R=none):=HA.out.trans (HEND.out k hlt);go_wp2_with fail;go_ret2;exact ValP.none HE.out (HK.out.trans HKR.out)
theorem Ints.apart {S:Nat->Prop} {w w':World} {v:Value} {xs:List Int} (h:Ints w v xs) (k:Only S w w') (hs:∀ g,v.ownBlock=some g->¬ S g):Ints w' v xs:=by
 obtain ⟨a,c,hv,hc,h3⟩:=h;refine ⟨a,c,hv,hc,fun q=>?_⟩;obtain ⟨g,o,ha,hg,hcell⟩:=h3 q;have hn:¬ S g:=hs g (by rw[hv,ha];rfl);exact ⟨g,o,ha,Nat.lt_of_lt_of_le hg k.size,fun j x hx=>(k.cell g _ hg hn).trans (hcell j x hx)⟩
theorem zjV (w:World) {ops:Array Oper} {o:Oper} {a:Act} {K:Act->World->Prop} {Q:Exit->Act->World->Prop} {E:Prop} (hgd:o.guard=none) (s x:Operand)
  (ho:o.op=.call { callee:=.builtin .append,args:=#[s,x],argTypes:=#[199,199] })
  (base:Nat) (v:Value) (ps:List Int) (hs:a.eval s=v) (hown:w.ownsRow base 3 1 v ps.length (zi6 ps)) (u:Value) (qs:List Int) (hx:a.eval x=u) (hu:Ints w u qs) (hq:0<qs.length)
  (hb:ps.length+qs.length<=10000000) (hbase:base<=w.heap.size)
  (h:∀ v' w',w'.ownsRow base 3 1 v' (ps ++ qs).length (zi6 (ps ++ qs))->w.grownBy w' v.ownBlock->(∀ g,v'.ownBlock=some g->v.ownBlock=some g\/g=w.heap.size)->K (a.put o.dst v') w') :
  if Region.wanted o (yielded ops a.tmps)=true then Oper.wp Tryz.prog o a w K Q else E:=by
 obtain ⟨i0,hi,hz0,hz1,hz2⟩:=info_parts Tryz.infoInt;obtain ⟨a',c',rfl,hc,h3⟩:=hu;obtain ⟨g,o2,rfl,_,hcell⟩:=h3 hq;refine step_append_lies w hgd s x 199 ho base 3 i0 (.int .i64 0) 1 8 Tryz.underlying199 hi hz0 hz1 hz2 rfl (by decide) v ps.length (zi6 ps) hs hown ⟨g,o2,none⟩ qs.length c' (zi6 qs) hx (by simp [zs8]) (fun j u hu=>?_) (zBK qs) hq (by unfold maxLen;omega) (by omega) hbase w.heap.size rfl (fun g' cap w' h1 h2 h4 _=>h _ w' ?_ h2 (fun g hg=>?_))
 ·rw[zlY];obtain ⟨y,hy,rfl⟩:=zy3 qs j u hu;exact hcell j y hy
 ·rw[List.length_append,zBJ];exact h1
 ·cases hg;exact h4
theorem zGd {w4 w8:World} {B gy oy j n c8:Nat} {vR vO vI:Value} {ys:List Int} {y:Int} (hb:Blk w4 B 88 #[vR,vO,vI]) (k:Kept w4 w8) (hi:Ints w8 (.slice (some ⟨gy,oy,none⟩) n c8) ys) (hy:ys[j]? = some y) :
  (w8.cell? ⟨B,0,none⟩=some vR/\w8.cell? ⟨B,1,none⟩=some vO/\w8.cell? ⟨B,2,none⟩=some vI/\w8.cell? ⟨gy,oy+j,none⟩=some (.int .i64 y))/\(B<w8.heap.size/\gy<w8.heap.size)/\Kept w4 w8:=by
 obtain ⟨g,o,he,hg,d⟩:=hi.cell_of j y hy;cases he;exact ⟨⟨(hb.kept k).cell 0 _ rfl,(hb.kept k).cell 1 _ rfl,(hb.kept k).cell 2 _ rfl,d⟩,⟨(hb.kept k).lt,hg⟩,k⟩
theorem zvA (vR vO:Value) (c:ColT) (s:Bs) (w:World) (hv:Col w vR vO c) (hs:SmallC c) (hl:s.length<=9000) :
  Calls Tryz.prog 150 #[zmZ vR vO c.ignore,.string (bs s)] w (IntsP (zdT c s) w):=by
 obtain ⟨i0,hi,hz0,hz1,hz2⟩:=info_parts Tryz.infoInt;have HV:=Hd hv;have HSM:=Hd hs;have s3:=hs.2.2.1;have HLS:=Hd (fun w=>zeM s w (by omega));have HLI:=Hd (fun w=>zeM c.ignore w (by omega));have H0:Hid (zdT c s=[] ++ ((zcR s).drop 0).flatMap (zeF c)):=rfl;have hpl:=zd8 s;have HPR:=Hd (fun x hx=>zrP s x hx);have hpi:=zd8 c.ignore;obtain ⟨aR,cR,rfl,lR⟩:=hv.1.form;obtain ⟨aO,cO,rfl,lO⟩:=hv.2.form;clear hv hs;generalize zcR s=A at *;have HG1:Hid (∀ x,zeF c x=if (zcR c.ignore).contains x=true then [] else match zj8 c x with
  | some v=>v.map (zc5 c)
  | none=>[zc5 c x]):=fun x=>rfl
 generalize zcR c.ignore=G at *;have HB1:=Hd (Blk.new w 88 #[.slice aR c.ranks.length cR,.slice aO c.order.length cO,.string (bs c.ignore)]);have HK:=Hd (zaA w (.cells #[.slice aR c.ranks.length cR,.slice aO c.order.length cO,.string (bs c.ignore)] 88));go_enter Tryz.func150,Tryz.ntmps150;go_wp2_with fail;generalize w.alloc (.cells #[.slice aR c.ranks.length cR,.slice aO c.order.length cO,.string (bs c.ignore)] 88)=w0 at *;generalize w.heap.size=B at *;have HCC:Hid (∀ w',Kept w0 w'->w'.cell? ⟨B,2,none⟩=some (.string (bs c.ignore))/\B<w'.heap.size/\Kept w0 w'):=fun w' h =>
  ⟨(HB1.out.kept h).cell 2 _ rfl,(HB1.out.kept h).lt,h⟩
 obtain ⟨t2,z0,-⟩:=HCC.out w0 (Kept.refl _);have hkd:Kept w0 w0.drew:=zaB w0 1
 go_region_held3 (fun w'=>w'.cell? ⟨B,2,none⟩=some (.string (bs c.ignore))/\B<w'.heap.size/\Kept w0 w')
  ((refine HCC.out _ ?_;assumption))
  (first
   | (go_at_call_of 195 (Value.string (bs c.ignore));refine (HLI.out _).mono ?_;rintro e w4 ⟨v6,rfl,hi6,hk4⟩;have k4:=k3.trans hk4;have HI5:=Hd (HI3.out.kept hk4);have HI6:=Hd hi6;obtain ⟨a6,c6,rfl,l6⟩:=hi6.form;clear hk4 hi6)
   | (go_at_call_of 195 (Value.string (bs s));refine (HLS.out _).mono ?_;rintro e w3 ⟨v5,rfl,hi5,hk3⟩;have k3:Kept w0 w3:=hkd.trans hk3;have HI3:=Hd hi5;obtain ⟨a5,c5,rfl,l5⟩:=hi5.form;clear hk3 hi5))
 all_goals
  clear HCC t2 z0 hkd;go_wp2_with fail;have HK4:=Hd (HK.out.trans k4);have HB4:=Hd (HB1.out.kept k4);have hz4:=HB4.out.lt;clear k3 HI3 HB1;go_loopw [7,8] (fun v i wr=>∃ (k:Nat) (xs:List Int),k<=A.length/\i=.int .i64 k/\xs.length<=1000 * k/\wr.ownsRow w4.heap.size 3 1 v xs.length (zi6 xs)/\Hid (zdT c s=xs ++ (A.drop k).flatMap (zeF c))/\Hid (Kept w4 wr)) (fun _ i _=>A.length - (intOf i).toNat)
  case atStart=>exact ⟨0,[],Nat.zero_le _,rfl,by simp,World.ownsRow_nil _ _ _ _,H0.out,Kept.refl _⟩
  case round =>
   obtain ⟨k,xs,hk,rfl,hxl,hown,HA,HKR⟩:=hrel;have HOWN:=Hd hown;by_cases hlt:k<A.length
   ·obtain ⟨x,hx⟩:∃ z,A[k]? = some z:=⟨_,List.getElem?_eq_getElem hlt⟩;obtain ⟨g,o,rfl,hg,d0⟩:=(HI5.out.kept HKR.out).cell_of k x hx;have HXR:=Hd (HPR.out x (List.mem_of_getElem? hx));have HD:Hid (zdT c s=xs ++ zeF c x ++ (A.drop (k+1)).flatMap (zeF c)):=by
     show _=_;obtain ⟨hk',rfl⟩:=List.getElem?_eq_some_iff.1 hx;rw[HA.out,List.drop_eq_getElem_cons hk',List.flatMap_cons,List.append_assoc]
    clear hx hown;go_wp2_with fail;refine (zy9 _ G x _ (HI6.out.kept HKR.out) (by omega)).mono ?_;rintro e w5 ⟨rfl,rfl⟩;obtain ⟨hx0,hx1⟩:0<=x/\x<=1114111:=(by have:=HXR.out;exact ⟨this.1,this.2.1⟩);have HVA:=Hd (fun w h=>zxG (.slice aR c.ranks.length cR) (.slice aO c.order.length cO) c x w h HSM.out hx0 hx1);have HK1:Hid (zeF c x=if G.contains x=true then [] else match zj8 c x with
     | some v=>v.map (zc5 c)
     | none=>[zc5 c x]):=HG1.out x
    cases hc:G.contains x with
    | true =>
     rw[hc,if_pos rfl] at HK1;have HD2:Hid (zdT c s=xs ++ (A.drop (k+1)).flatMap (zeF c)):=by
      show _=_;rw[HD.out,HK1.out,List.append_nil]
     have hown:=HOWN.out;clear HOWN hc;go_wp2_with fail;go_roundw
     case rel=>exact ⟨k+1,xs,by omega,by go_num,by omega,hown,HD2.out,HKR.out⟩
     case measure=>simp [intOf];omega
    | false =>
     rw[hc,if_neg (by simp)] at HK1;have HCC:Hid (∀ w',Kept wr w'->(w'.cell? ⟨B,0,none⟩=some (.slice aR c.ranks.length cR)/\w'.cell? ⟨B,1,none⟩=some (.slice aO c.order.length cO)/\w'.cell? ⟨B,2,none⟩=some (.string (bs c.ignore))/\w'.cell? ⟨g,o+k,none⟩=some (.int .i64 x))/\(B<w'.heap.size/\g<w'.heap.size)/\Kept wr w'):=fun w' h =>
      ⟨⟨((HB4.out.kept HKR.out).kept h).cell 0 _ rfl,((HB4.out.kept HKR.out).kept h).cell 1 _ rfl,((HB4.out.kept HKR.out).kept h).cell 2 _ rfl,(h.cell (p:=⟨g,o+k,none⟩) hg).trans d0⟩,⟨((HB4.out.kept HKR.out).kept h).lt,Nat.lt_of_lt_of_le hg h.size⟩,h⟩
     obtain ⟨⟨t0,t1,t2,-⟩,⟨z0,-⟩,-⟩:=HCC.out wr (Kept.refl _);have hkd:Kept wr wr.drew:=zaB wr 1;have HVR:=Hd ((HV.out.kept HK4.out).kept HKR.out);clear hc;go_wp2_with fail
     go_region_held3 (fun w'=>(w'.cell? ⟨B,0,none⟩=some (.slice aR c.ranks.length cR)/\w'.cell? ⟨B,1,none⟩=some (.slice aO c.order.length cO)/\w'.cell? ⟨B,2,none⟩=some (.string (bs c.ignore))/\w'.cell? ⟨g,o+k,none⟩=some (.int .i64 x))/\(B<w'.heap.size/\g<w'.heap.size)/\Kept wr w')
      ((refine HCC.out _ ?_;assumption))
      (first
       | (go_at_call 197;refine (HVA.out _ (HVR.out.kept hkd)).mono ?_;rintro e w6 ⟨v6,rfl,hi6,ho6,hk6⟩;have k6:Kept wr w6:=hkd.trans hk6;have HI7:=Hd hi6;have HO7:Hid (∀ g,v6.ownBlock=some g->wr.heap.size<=g):=ho6;obtain ⟨a7,c7,rfl,l7⟩:=hi6.form;clear hk6 hi6 ho6))
     all_goals
      obtain ⟨⟨q0,q1,q2,q3⟩,⟨y0,y1⟩,-⟩:=HCC.out w6 k6;have HOW6:=Hd (zaP HOWN.out k6);have HOL:=Hd (fun g hg=>(HOWN.out.lt g hg).2);have HSZ6:=Hd k6.size;have HKW6:=Hd (HKR.out.trans k6);clear HCC t0 t1 t2 z0 hkd hg d0 HOWN;cases hval:zj8 c x
      case' none =>
       rw[hval] at HK1;have HKX:Hid (zeF c x=[x].map (zc5 c)):=HK1;have HYR:Hid (∀ y∈[x],0<=y/\y<=1114111):=fun y hy=>by
        rcases List.mem_singleton.1 hy with rfl;exact ⟨hx0,hx1⟩
       have HYL:Hid ([x].length<=1000):=(by show _<=_;simp);clear HK1 HVA HVR hval HI7 HO7 l7
       (try simp only[Option.isSome_none,Option.getD_none,List.length_nil])
       go_wp2_with fail;have HI8:=Hd (zy4 w6 x);have HKA:=Hd (zaA w6 (.cells #[.int .i64 x] 3));obtain ⟨V,HVV⟩:∃ V,Hid (Value.slice (some ⟨w6.heap.size,0,none⟩) 1 1=V):=⟨_,rfl⟩;have HO8:Hid (∀ g,V.ownBlock=some g->wr.heap.size<=g):=fun g hg=>by
        rw[<- HVV.out] at hg;cases hg;exact HSZ6.out
       rw[HVV.out] at HI8 ⊢;obtain ⟨ys,HYS⟩:∃ ys,Hid ([x]=ys):=⟨_,rfl⟩;rw[HYS.out] at HI8 HKX HYR HYL;have HKW8:=Hd (HKW6.out.trans HKA.out);have HOW8:=Hd (zaP HOW6.out HKA.out);clear q0 q1 q2 q3 y0 y1 HVV HKA HYS HOW6 HKW6 HSZ6;generalize w6.alloc (.cells #[.int .i64 x] 3)=w8 at *;obtain ⟨a8,c8,rfl,l8⟩:=HI8.out.form
      case' some ys =>
       rw[hval] at HK1 HI7;have HKX:Hid (zeF c x=ys.map (zc5 c)):=HK1;have HYR:Hid (∀ y∈ys,0<=y/\y<=1114111):=fun y hy=>⟨(zmG hval y hy).1,(zmG hval y hy).2.1⟩;have HYL:Hid (ys.length<=1000):=ztJ HSM.out hval;rw[hval] at HO7 l7;simp only[Option.getD_some] at HI7 HO7 l7;obtain ⟨a8,rfl⟩:∃ a,a=a7:=⟨_,rfl⟩;obtain ⟨c8,rfl⟩:∃ a,a=c7:=⟨_,rfl⟩;obtain ⟨w8,rfl⟩:∃ a,a=w6:=⟨_,rfl⟩;have HI8:Hid (Ints w8 (.slice a8 ys.length c8) ys):=HI7.out;have HO8:Hid (∀ g,(Value.slice a8 ys.length c8).ownBlock=some g->wr.heap.size<=g):=HO7.out;have HKW8:=HKW6;have HOW8:=HOW6;clear HK1 HVA HVR hval HI7 HO7 q0 q1 q2 q3 y0 y1 HOW6 HKW6 HSZ6
       (try simp only[Option.isSome_some,Option.getD_some])
       go_wp2_with fail
      all_goals
       have HAP0:Hid (∀ g,u7.ownBlock=some g->(Value.slice a8 ys.length c8).ownBlock≠some g):=fun g hg q=>absurd (HOL.out g hg) (Nat.not_lt.2 (HO8.out g q));clear HOL HO8;go_loopw [7,11] (fun v i wr2=>∃ (j:Nat) (zs:List Int),j<=ys.length/\i=.int .i64 j/\zs.length=xs.length+j/\wr2.ownsRow w4.heap.size 3 1 v zs.length (zi6 zs)/\Hid (zs=xs ++ (ys.take j).map (zc5 c))/\Hid (Ints wr2 (.slice a8 ys.length c8) ys)/\Hid (∀ g,v.ownBlock=some g->(Value.slice a8 ys.length c8).ownBlock≠some g)/\Hid (Kept w4 wr2)) (fun _ i _=>ys.length - (intOf i).toNat)
       case atStart=>exact ⟨0,xs,Nat.zero_le _,rfl,rfl,HOW8.out,by show _=_;simp,HI8.out,HAP0.out,HKW8.out⟩
       case round =>
        clear HOW8 HI8 HAP0 HKW8;obtain ⟨j,zs,hj,rfl,hzl,hown,HZ,HIY,HAP,HK2⟩:=hrel;have HOWN:=Hd hown;by_cases hlt2:j<ys.length
        ·obtain ⟨y,hy⟩:∃ y,ys[j]? = some y:=⟨_,List.getElem?_eq_getElem hlt2⟩;obtain ⟨gy,oy,rfl,hgy,dy⟩:=HIY.out.cell_of j y hy;have HY:=Hd hy;obtain ⟨hy0,hy1⟩:=HYR.out y (List.mem_of_getElem? hy);have HZ2:Hid (zs ++ [zc5 c y]=xs ++ (ys.take (j+1)).map (zc5 c)):=by
          show _=_;obtain ⟨hj',rfl⟩:=List.getElem?_eq_some_iff.1 hy;rw[List.take_succ_eq_append_getElem hj',HZ.out,List.map_append,List.append_assoc];rfl
         have HRX:=Hd (fun w h=>zBa (.slice aR c.ranks.length cR) (.slice aO c.order.length cO) c y w h HSM.out hy0 hy1);generalize zc5 c y=r at HZ2 HRX;have HVR:=Hd ((HV.out.kept HK4.out).kept HK2.out);have HCC:Hid (∀ w',Kept wr w'->(w'.cell? ⟨B,0,none⟩=some (.slice aR c.ranks.length cR)/\w'.cell? ⟨B,1,none⟩=some (.slice aO c.order.length cO)/\w'.cell? ⟨B,2,none⟩=some (.string (bs c.ignore))/\w'.cell? ⟨gy,oy+j,none⟩=some (.int .i64 y))/\(B<w'.heap.size/\gy<w'.heap.size)/\Kept w4 w'):=fun w' h =>
          ⟨⟨((HB4.out.kept HK2.out).kept h).cell 0 _ rfl,((HB4.out.kept HK2.out).kept h).cell 1 _ rfl,((HB4.out.kept HK2.out).kept h).cell 2 _ rfl,(h.cell (p:=⟨gy,oy+j,none⟩) hgy).trans dy⟩,⟨((HB4.out.kept HK2.out).kept h).lt,Nat.lt_of_lt_of_le hgy h.size⟩,HK2.out.trans h⟩
         obtain ⟨⟨t0,t1,t2,-⟩,⟨z0,-⟩,-⟩:=HCC.out wr (Kept.refl _);have hkd:Kept wr wr.drew:=zaB wr 1;have HYL2:=HYL.out;have HGY:=Hd hgy;have hkw:=HK2.out.size;clear hy hown;go_wp2_with fail
         go_region_held3 (fun w'=>(w'.cell? ⟨B,0,none⟩=some (.slice aR c.ranks.length cR)/\w'.cell? ⟨B,1,none⟩=some (.slice aO c.order.length cO)/\w'.cell? ⟨B,2,none⟩=some (.string (bs c.ignore))/\w'.cell? ⟨gy,oy+j,none⟩=some (.int .i64 y))/\(B<w'.heap.size/\gy<w'.heap.size)/\Kept w4 w')
          (first|exact HS8.out|(refine HCC.out _ ?_;first|assumption|(refine Kept.trans ?_ (zaA _ _);assumption)))
          (first
           | (refine zjV _ rfl (.tmp 51) (.tmp 58) rfl w4.heap.size _ zs (by simp [Act.eval,Act.put]) ((zaP HOWN.out k7).alloc _) _ [r] (by simp [Act.eval,Act.put]) (zy4 _ r) (by simp) (by simp;omega) (Nat.le_trans hkw (k7.trans (zaA _ _)).size) ?_;intro v2 w8 hown2 hgrow2 hloc2;have HO2:=Hd hown2;have HG2:=Hd hgrow2;have HL2:=Hd hloc2;have HK8:=Hd (((HK2.out.trans k7).trans (zaA w7 (.cells #[.int .i64 r] 3))).trans' (zaI ((zaP HOWN.out k7).alloc _) HG2.out (Nat.le_trans hkw (k7.trans (zaA _ _)).size)));have HIY2:=Hd (((HIY.out.kept k7).kept (zaA w7 (.cells #[.int .i64 r] 3))).apart (Only.grown HG2.out) (fun g hg q=>HAP.out g q.symm hg));have HS8:=Hd (zGd HB4.out HK8.out HIY2.out HY.out);clear hown2 hgrow2 hloc2)
           | (go_at_call 198;refine (HRX.out _ (HVR.out.kept hkd)).mono ?_;rintro e w7 ⟨rfl,hk7⟩;have k7:Kept wr w7:=hkd.trans hk7;clear hk7))
         all_goals
          have HAP2:Hid (∀ g,v2.ownBlock=some g->(Value.slice (some ⟨gy,oy,none⟩) ys.length c8).ownBlock≠some g):=fun g hg q=>by
           rcases HL2.out g hg with h|h
           ·exact HAP.out g h q
           ·have h1:gy=g:=(by simpa [Value.ownBlock] using q);have h2:=HGY.out;have h3:=k7.size;simp at h;omega
          clear HCC t0 t1 t2 z0 hkd HG2 HL2 HOWN HIY HAP hgy dy;go_wp2_with fail;go_roundw
          case rel=>exact ⟨j+1,zs ++ [r],by omega,by go_num,by simp;omega,HO2.out,HZ2.out,HIY2.out,HAP2.out,HK8.out⟩
          case measure=>simp [intOf];omega
        ·obtain rfl:j=ys.length:=(by omega);rw[List.take_of_length_le (Nat.le_refl _)] at HZ;have HZ3:Hid (zdT c s=zs ++ (A.drop (k+1)).flatMap (zeF c)):=by
          show _=_;rw[HD.out,HKX.out,HZ.out]
         have HYL2:=HYL.out;clear hown;go_wp2_with fail;go_roundw
         case rel=>exact ⟨k+1,zs,by omega,by go_num,by omega,HOWN.out,HZ3.out,HK2.out⟩
         case measure=>simp [intOf];omega
   ·have HL:Hid (zdT c s=xs):=by
     show _=_;rw[HA.out,List.drop_of_length_le (by omega)];simp
    have HI:=Hd (Ints.own hown);clear hown;go_wp2_with fail;go_ret;exact ⟨_,rfl,by rw[HL.out];exact HI.out,HK4.out.trans HKR.out⟩
theorem zFs (c:ColT) (a b:Bs):zgV c a b=if zeG (zdT c a) (zdT c b)≠0 then zeG (zdT c a) (zdT c b) else zkJ a b:=rfl
theorem zBd (a b:Bs):(a == b)=decide (zkJ a b=0):=by
 by_cases h:a=b
 ·subst h;rw[zAe];simp
 ·rw[beq_eq_false_iff_ne.2 h,eq_comm,decide_eq_false_iff_not];exact fun q=>h (zAd a b q)
theorem zsJ (vR vO:Value) (c:ColT) (a b:Bs) (w:World) (hv:Col w vR vO c) (hs:SmallC c) (ha:a.length<=9000) (hb:b.length<=9000) :
  Calls Tryz.prog 102 #[zmZ vR vO c.ignore,.string (bs a),.string (bs b)] w fun e w'=>e=.returned (.int .i64 (zgV c a b))/\Kept w w':=by
 have HV:=Hd hv;have HKA:=Hd (fun w h=>zvA vR vO c a w h hs ha);have HKB:=Hd (fun w h=>zvA vR vO c b w h hs hb);have hla:=zk5 hs a;have hlb:=zk5 hs b;have HE:=Hd (zFs c a b);have HRG:=Hd (zoA a b);have HL1:Hid (Op.bytesLess a b=decide (zkJ a b<0)):=zpL a b;have HL2:Hid ((a == b)=decide (zkJ a b=0)):=zBd a b;have HAT:=Hd (zzZ (zdT c a) (zdT c b));have HEN:=Hd (zuY (zdT c a) (zdT c b));obtain ⟨aR,cR,rfl,lR⟩:=hv.1.form;obtain ⟨aO,cO,rfl,lO⟩:=hv.2.form;clear hv;have HK0:=Hd (zaA w (.cells #[.slice aR c.ranks.length cR,.slice aO c.order.length cO,.string (bs c.ignore)] 88));have HB0:=Hd (Blk.new w 88 #[.slice aR c.ranks.length cR,.slice aO c.order.length cO,.string (bs c.ignore)]);generalize zgV c a b=R at *;generalize zdT c a=x at *;generalize zdT c b=y at *;generalize zkJ a b=S at *;unfold IntsP at HKA HKB;go_enter Tryz.func102,Tryz.ntmps102;go_wp2_with fail;generalize w.alloc (.cells #[.slice aR c.ranks.length cR,.slice aO c.order.length cO,.string (bs c.ignore)] 88)=w0 at *;generalize w.heap.size=B at *;have HCC:Hid (∀ w',Kept w0 w'->(w'.cell? ⟨B,0,none⟩=some (.slice aR c.ranks.length cR)/\w'.cell? ⟨B,1,none⟩=some (.slice aO c.order.length cO)/\w'.cell? ⟨B,2,none⟩=some (.string (bs c.ignore)))/\B<w'.heap.size/\Kept w0 w'):=fun w' h =>
  ⟨⟨(HB0.out.kept h).cell 0 _ rfl,(HB0.out.kept h).cell 1 _ rfl,(HB0.out.kept h).cell 2 _ rfl⟩,(HB0.out.kept h).lt,h⟩
 obtain ⟨⟨t0,t1,t2⟩,z0,-⟩:=HCC.out w0 (Kept.refl _);have hkd:Kept w0 w0.drew:=zaB w0 1;have HV0:=Hd (HV.out.kept HK0.out)
 go_region_held3 (fun w'=>(w'.cell? ⟨B,0,none⟩=some (.slice aR c.ranks.length cR)/\w'.cell? ⟨B,1,none⟩=some (.slice aO c.order.length cO)/\w'.cell? ⟨B,2,none⟩=some (.string (bs c.ignore)))/\B<w'.heap.size/\Kept w0 w')
  ((refine HCC.out _ ?_;assumption))
  (first
   | (go_at_call_of 150 (Value.string (bs b));refine (HKB.out _ (HV0.out.kept kA)).mono ?_;rintro e w4 ⟨vB,rfl,hiB,hk4⟩;have kB:Kept w0 w4:=kA.trans hk4;have HIA2:=Hd (HIA.out.kept hk4);have HIB2:=Hd hiB;obtain ⟨aB,cB,rfl,lB⟩:=hiB.form;clear hk4 hiB)
   | (go_at_call_of 150 (Value.string (bs a));refine (HKA.out _ (HV0.out.kept hkd)).mono ?_;rintro e w3 ⟨vA,rfl,hiA,hk3⟩;have kA:Kept w0 w3:=hkd.trans hk3;have HIA:=Hd hiA;obtain ⟨aA,cA,rfl,lA⟩:=hiA.form;clear hk3 hiA))
 all_goals
  have HKZ:=Hd (HK0.out.trans kB);clear HCC kA kB t0 t1 t2 z0 hkd HIA HB0 HV HV0 HKA HKB;obtain ⟨D,HD⟩:∃ D,Hid (zeG x y=D):=⟨_,rfl⟩;rw[HD.out] at HE;go_wp2_with fail;go_loopw [9] (fun i wr=>∃ k:Nat,k<=x.length/\k<=y.length/\i=.int .i64 k/\Hid (zeG (x.drop k) (y.drop k)=D)/\Hid (Kept w4 wr)) (fun i _=>x.length - (intOf i).toNat)
  case atStart=>exact ⟨0,Nat.zero_le _,Nat.zero_le _,rfl,HD.out,Kept.refl _⟩
  case round =>
   obtain ⟨k,hk,hk2,rfl,HA,HKR⟩:=hrel;by_cases hlt:k<x.length
   ·obtain ⟨p,hp⟩:∃ z,x[k]? = some z:=⟨_,List.getElem?_eq_getElem hlt⟩;obtain ⟨g,o,rfl,hg,d0⟩:=(HIA2.out.kept HKR.out).cell_of k p hp;by_cases hlt2:k<y.length
    ·obtain ⟨q,hq⟩:∃ z,y[k]? = some z:=⟨_,List.getElem?_eq_getElem hlt2⟩;obtain ⟨g2,o2,rfl,hg2,d1⟩:=(HIB2.out.kept HKR.out).cell_of k q hq;have HS:Hid (D=if p<q then -1 else if q<p then 1 else zeG (x.drop (k+1)) (y.drop (k+1))):=by
      show _=_;rw[<- HA.out,HAT.out k hlt hlt2];obtain ⟨_,rfl⟩:=List.getElem?_eq_some_iff.1 hp;obtain ⟨_,rfl⟩:=List.getElem?_eq_some_iff.1 hq;rfl
     clear hp hq;by_cases h1:p<q
     ·rw[if_pos h1] at HS;have HR:Hid (R = -1):=(by show _=_;rw[HE.out,HS.out,if_pos (by decide)]);go_wp2_with fail;go_region
      all_goals
       go_wp2_with fail;go_ret;exact ⟨zaG HR.out.symm,HKZ.out.trans (HKR.out.trans (zaB _ _))⟩
     ·rw[if_neg h1] at HS;have hd1:=fun n=>(((zaB wr n).cell (p:=⟨g,o+k,none⟩) hg).trans d0:(wr.drewN n).cell? ⟨g,o+k,none⟩=some (.int .i64 p));have hd2:=fun n=>(((zaB wr n).cell (p:=⟨g2,o2+k,none⟩) hg2).trans d1:(wr.drewN n).cell? ⟨g2,o2+k,none⟩=some (.int .i64 q));by_cases h2:q<p
      ·rw[if_pos h2] at HS;have HR:Hid (R=1):=(by show _=_;rw[HE.out,HS.out,if_pos (by decide)]);go_wp2_with fail;go_region
       all_goals
        go_wp2_with fail;go_region
        all_goals
         go_wp2_with fail;go_ret;exact ⟨zaG HR.out.symm,HKZ.out.trans ((HKR.out.trans (zaB _ _)).trans (zaB _ _))⟩
      ·rw[if_neg h2] at HS;go_wp2_with fail;go_region
       all_goals
        go_wp2_with fail;go_region
        all_goals
         go_wp2_with fail;go_roundw
         case rel=>exact ⟨k+1,by omega,by omega,by go_num,HS.out.symm,(HKR.out.trans (zaB _ _)).trans (zaB _ _)⟩
         case measure=>simp [intOf];omega
    ·have HS:Hid (D=1):=by
      show _=_;rw[<- HA.out,HEN.out k hk hk2 (fun q=>hlt2 q.2),if_neg (by omega),if_pos (by omega)]
     have HR:Hid (R=1):=(by show _=_;rw[HE.out,HS.out,if_pos (by decide)]);have h1:¬ x.length<y.length:=(by omega);have h2:((x.length:Int) == y.length)=false:=(by rw[beq_eq_false_iff_ne];omega);have h3:y.length<x.length:=(by omega);clear hp;go_wp2_with fail;go_ret;exact ⟨zaG HR.out.symm,HKZ.out.trans HKR.out⟩
   ·have HS:Hid (D=if x.length<y.length then -1 else 0):=by
     show _=_;rw[<- HA.out,HEN.out k hk hk2 (fun q=>hlt q.1)];by_cases q:x.length<y.length
     ·rw[if_pos q,if_pos q]
     ·rw[if_neg q,if_neg q,if_neg (by omega)]
    by_cases h1:x.length<y.length
    ·rw[if_pos h1] at HS;have HR:Hid (R = -1):=(by show _=_;rw[HE.out,HS.out,if_pos (by decide)]);go_wp2_with fail;go_ret;exact ⟨zaG HR.out.symm,HKZ.out.trans HKR.out⟩
    ·rw[if_neg h1] at HS;have HR:Hid (R=S):=(by show _=_;rw[HE.out,HS.out,if_neg (by simp)]);have h2:((x.length:Int) == y.length)=true:=(by rw[beq_iff_eq];omega);have h3:¬ y.length<x.length:=(by omega);have HRG2:Hid (S = -1\/S=0\/S=1):=HRG.out;clear HE HS;rcases HRG2.out with h|h|h
     all_goals
      subst h;have hl1:=HL1.out;have hl2:=HL2.out;simp only[show decide ((-1:Int)<0)=true from rfl,show decide ((0:Int)<0)=false from rfl,show decide ((1:Int)<0)=false from rfl] at hl1;simp only[show decide ((-1:Int)=0)=false from rfl,show decide ((0:Int)=0)=true from rfl,show decide ((1:Int)=0)=false from rfl] at hl2;have hl3:=(show Op.bytesLess (bs a).toList (bs b).toList=Op.bytesLess a b by rw[zh0,zh0]).trans hl1;have hl4:=(show ((bs a).toList == (bs b).toList)=(a == b) by rw[zh0,zh0]).trans hl2;clear HL1 HL2;go_wp2_with fail;go_ret;exact ⟨zaG HR.out.symm,HKZ.out.trans HKR.out⟩
end Go.Proofs.YtmcoomlkbgiboaaGreatDoor
