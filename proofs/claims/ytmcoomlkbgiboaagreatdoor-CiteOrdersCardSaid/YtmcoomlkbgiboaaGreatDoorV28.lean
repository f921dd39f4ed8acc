/- tablesOf of collate. Conditions: lengths. -/
import Derived.Test.YtmcoomlkbgiboaaGreatDoorV17
import Derived.Test.YtmcoomlkbgiboaaGreatDoorV25
import Derived.Test.YtmcoomlkbgiboaaGreatDoorV16
import Derived.Test.YtmcoomlkbgiboaaGreatDoorV24
import Derived.Deep.RegionHeld3
import Derived.BigQuiet
import Derived.Lib.Bytealg
set_option linter.all false
set_option maxRecDepth 100000
set_option maxHeartbeats 6400000
namespace Go.Proofs.YtmcoomlkbgiboaaGreatDoor
open Go.RowKit
def IntsQ (xs:List Int) (w:World) (e:Ending) (w':World):Prop:=∃ v,e=.returned v/\Ints w' v xs/\(∀ g,v.ownBlock=some g->w.heap.size<=g)/\Kept w w'
theorem ztI (l:Bs) (w:World) (hl:l.length<=1100000):Calls Tryz.prog 192 #[.string (bs l)] w (IntsQ (zcR l) w):=by
 obtain ⟨i0,hi,hz0,hz1,hz2⟩:=info_parts Tryz.infoInt;have H0:Hid (zcR l=[] ++ zqV l 0):=(by show _=_;rw[ziD];rfl);unfold IntsQ;go_enter Tryz.func192,Tryz.ntmps192;go_wp2_with (at_make;refine wpList_make_own _ rfl _ _ 199 rfl w.heap.size 3 i0 (.int .i64 0) 1 Tryz.underlying199 hi hz0 hz1 .i64 .i64 l.length l.length rfl rfl rfl (by rw[hz2];omega) (by unfold maxLen;omega) (by simp) ?_;intro w1 hown hgrow);have HK1:Kept w w1:=Below.grown (Below.refl _ _) hgrow (Nat.le_refl _) (fun j hj=>by cases hj);have hs1:w.heap.size<=w1.heap.size:=HK1.size;go_loopw [3] (fun v wr=>∃ (pos:Nat) (xs:List Int),pos<=l.length/\wr.heap[w1.heap.size]? = some (.stringIter (bs l) pos)/\wr.ownsRow w.heap.size 3 1 v xs.length (zi6 xs)/\Hid (zcR l=xs ++ zqV l pos)/\xs.length<=pos/\Kept w wr) (fun _ wr=>l.length - wr.iterPos w1.heap.size)
 case atStart=>exact ⟨0,[],Nat.zero_le _,World.iter_heap _ _ _,zaP hown (zaA _ _),H0,Nat.le_refl _,HK1.trans (zaA _ _)⟩
 case round =>
  clear hown hgrow;obtain ⟨pos,xs,hp,hit,hown,HA,hxl,hk⟩:=hrel;have hip:wr.iterPos w1.heap.size=pos:=(by simp [World.iterPos,hit]);have hsz:w1.heap.size<wr.heap.size:=by
   rcases Nat.lt_or_ge w1.heap.size wr.heap.size with q|q
   ·exact q
   ·rw[Array.getElem?_eq_none q] at hit;cases hit
  by_cases hlt:pos<l.length
  ·have nx:=fun ty=>zc1 (P:=Tryz.prog) wr w1.heap.size (bs l) pos ty hit hlt;have hb:=za7 (bs l) pos hlt;have HP:=Hd (zlW l pos hlt);have hitW:(wr.iterAt w1.heap.size (bs l) (pos+(dec (bs l) pos).2.toNat)).heap[w1.heap.size]? = some (.stringIter (bs l) (pos+(dec (bs l) pos).2.toNat)):=Lib.iterAt_heap wr w1.heap.size (bs l) pos _ hit;have hkW:Kept w (wr.iterAt w1.heap.size (bs l) (pos+(dec (bs l) pos).2.toNat)):=Lib.below_iterAt hk hs1 (bs l) _;have hoW:=zhO hown hit (bs l) (pos+(dec (bs l) pos).2.toNat);have hne:=zhN hown hit;have hzW:(wr.iterAt w1.heap.size (bs l) (pos+(dec (bs l) pos).2.toNat)).heap.size=wr.heap.size:=Lib.iterAt_size ..;obtain ⟨c,n,hd⟩:∃ c n,dec (bs l) pos=(c,n):=⟨(dec (bs l) pos).1,(dec (bs l) pos).2,rfl⟩;rw[hd] at nx hb HP hitW hkW hoW hzW;simp only at nx hb HP hitW hkW hoW hzW;obtain ⟨b1,b2,b3,b4,b5⟩:=hb;simp only[zeC] at b5;obtain ⟨W,HW⟩:∃ W,Hid (wr.iterAt w1.heap.size (bs l) (pos+n.toNat)=W):=⟨_,rfl⟩;simp only[HW.out] at nx hitW hkW hoW hzW;have HITW:=Hd hitW;have HKW:=Hd hkW;have HNE:=Hd hne;have HIP:=Hd hip;have hszW:w1.heap.size<W.heap.size:=(by omega);have hwW:w.heap.size<=W.heap.size:=(by omega);clear hitW hkW hd hip hit hk hown hne hzW;go_wp2_with (at_builtin;refine wpList_append_own _ rfl _ _ 199 rfl w.heap.size 3 i0 (.int .i64 0) 1 8 Tryz.underlying199 hi hz0 hz1 hz2 rfl (by decide) _ _ _ rfl (hoW.alloc _) ⟨W.heap.size,0,none⟩ 1 1 [.int .i64 c] rfl rfl ?_ ?_ ?_ ?_ ?_ ?_)
   ·exact za0 _ #[.int .i64 c] _ _ (by simp)
   ·intro u hu;simp at hu;subst hu;rfl
   ·unfold maxLen;omega
   ·omega
   ·simp;omega
   intro v' w2 hown2 hgrow2 _;have HB2:=Hd ((HKW.out.trans (zaA W _)).trans' (zaI (hoW.alloc _) hgrow2 (by simp;omega)));have hit2:w2.heap[w1.heap.size]? = some (.stringIter (bs l) (pos+n.toNat)):=by
    rw[hgrow2.block w1.heap.size (by simp;omega) HNE.out,Below.heap_alloc _ _ _ hszW];exact HITW.out
   have HIT2:=Hd hit2;rw[<- zgD] at hown2;have HO:=Hd hown2;clear hown2 hgrow2 hoW hit2;go_wp2_with fail;go_roundw
   case rel=>exact ⟨pos+n.toNat,xs ++ [c],by omega,HIT2.out,by simpa using HO.out,by show _=_;rw[HA.out,HP.out];simp,by simp;omega,HB2.out⟩
   case measure=>rw[HIP.out];have:=HIT2.out;simp [World.iterPos,this];omega
  ·have nx:=fun ty=>zbR (P:=Tryz.prog) wr w1.heap.size (bs l) pos ty hit hlt;have HI:=Hd (Ints.own hown);have HBS:=Hd (fun g h=>(hown.lt g h).1);have HL:Hid (zcR l=xs):=by
    show _=_;rw[HA.out,zgY l pos hlt,List.append_nil]
   have HK:=Hd hk;clear hown hk;go_wp2_with fail;go_ret;exact ⟨_,rfl,by rw[HL.out];exact HI.out,HBS.out,HK.out⟩
theorem Tryz.zeroInt (w:World):(zeroValue 3).run Tryz.prog w=.ok (.int .i64 0) w:=by kernel_rfl
theorem Tryz.zeroInts (w:World):(zeroValue 199).run Tryz.prog w=.ok (.slice none 0 0) w:=by kernel_rfl
theorem ValsR.onl {w w':World} {es es':List (Int × Value)} {c:ColT} {m:Nat} (h:ValsR w es c) (hm:MapV w m es') (k:Only (fun i=>i=m) w w'):ValsR w' es c:=fun x=>by
 have:=h x;cases hv:zj8 c x with
 | none=>rw[hv] at this;exact this
 | some ys =>
  rw[hv] at this;obtain ⟨v,h1,h2⟩:=this;exact ⟨v,h1,h2.map hm k⟩
theorem zrO {w:World} {es:List (Int × Value)} {c c':ColT} (h:ValsR w es c) (he:∀ x,zj8 c' x=zj8 c x):ValsR w es c':=fun x=>by rw[he x];exact h x
theorem zAa {w:World} {es:List (Int × Value)} {rs:List Pr} {o:List Bs} {i:Bs} (h:ValsR w es ⟨rs,o,i⟩) (p:Pr) (hp:(zcR p.1).length≠1):ValsR w es ⟨rs ++ [p],o,i⟩ :=
 zrO h fun x=>by
  rw[zlX];cases zj8 ⟨rs,o,i⟩ x with
  | some ys=>rfl
  | none =>
   simp only;rw[if_neg (fun q=>hp (by rw[q];rfl))]
theorem zCn {w:World} {es:List (Int × Value)} {rs:List Pr} {o:List Bs} {i:Bs} (h:ValsR w es ⟨rs,o,i⟩) (p:Pr) (x:Int) (u:Value) (hp:zcR p.1=[x]) (hx:zdI es x=some u):ValsR w es ⟨rs ++ [p],o,i⟩ :=
 zrO h fun y=>by
  rw[zlX];cases hv:zj8 ⟨rs,o,i⟩ y with
  | some ys=>rfl
  | none =>
   simp only;rw[if_neg];intro q;rw[hp] at q;obtain rfl:x=y:=(by simpa using q);have:=h x;rw[hv] at this;rw[hx] at this;cases this
theorem zCo {w:World} {es:List (Int × Value)} {rs:List Pr} {o:List Bs} {i:Bs} (h:ValsR w es ⟨rs,o,i⟩) (p:Pr) (x:Int) (v:Value) (hp:zcR p.1=[x]) (hx:zdI es x=none) (hv:Ints w v (zcR p.2)):ValsR w (es ++ [(x,v)]) ⟨rs ++ [p],o,i⟩:=fun y=>by
 have hy:=h y;rw[zlX,ziE];cases hw:zj8 ⟨rs,o,i⟩ y with
 | some ys =>
  rw[hw] at hy;obtain ⟨u,h1,h2⟩:=hy;exact ⟨u,by rw[h1],h2⟩
 | none =>
  rw[hw] at hy;simp only at hy ⊢;rw[hy,hp];by_cases q:x=y
  ·subst q;rw[if_pos rfl,if_pos rfl];exact ⟨v,rfl,hv⟩
  ·rw[if_neg (by simpa using q),if_neg q]
abbrev zCp:Array Value:=#[.map none,.map none,.map none,.int .i64 0]
def ValsF (es:List (Int × Value)) (B:Nat):Prop:=∀ x v,zdI es x=some v->∀ g,v.ownBlock=some g->B<=g
theorem ValsF.nil (B:Nat):ValsF [] B:=fun x v h=>by
 have e:zdI [] x=none:=rfl;rw[e] at h;cases h
theorem ValsF.push {es:List (Int × Value)} {B:Nat} (h:ValsF es B) (x:Int) (v:Value) (hv:∀ g,v.ownBlock=some g->B<=g):ValsF (es ++ [(x,v)]) B:=fun y u hu=>by
 rw[ziE] at hu;cases hy:zdI es y with
 | some u'=>rw[hy] at hu;cases hu;exact h y u hy
 | none =>
  rw[hy] at hu;simp only at hu
  split at hu
  ·cases hu;exact hv
  ·cases hu
theorem ValsR.blk {w w':World} {es:List (Int × Value)} {c:ColT} {b B:Nat} (h:ValsR w es c) (hf:ValsF es B) (hb:b<B) (k:Only (fun i=>i=b) w w'):ValsR w' es c:=fun x=>by
 have:=h x;cases hv:zj8 c x with
 | none=>rw[hv] at this;exact this
 | some ys =>
  rw[hv] at this;obtain ⟨v,h1,h2⟩:=this;have hg:=hf x v h1;refine ⟨v,h1,h2.only k (fun g e=>.inr (fun o n cc q=>?_))⟩;have:=hg g (by rw[q];rfl);omega
structure TS (w:World) (B:Nat) (vR vO:Value) (ig:Bs) (n:Nat) (e1 e2 e3:List (Int × Value)):Prop where
 box:Blk w B 88 #[vR,vO,.string (bs ig)]
 res:Blk w (B+1) 196 zCp
 m1:MapV w (B+1+1) e1
 m2:MapV w (B+1+1+1) e2
 m3:MapV w (B+1+1+1+1) e3
 tab:Blk w (B+1+1+1+1+1) 196 #[.map (some (B+1+1)),.map (some (B+1+1+1)),.map (some (B+1+1+1+1)),.int .i64 n]
theorem TS.kept {w w':World} {B:Nat} {vR vO:Value} {ig:Bs} {n:Nat} {e1 e2 e3:List (Int × Value)} (h:TS w B vR vO ig n e1 e2 e3) (k:Kept w w'):TS w' B vR vO ig n e1 e2 e3 :=
 ⟨h.box.kept k,h.res.kept k,h.m1.kept k,h.m2.kept k,h.m3.kept k,h.tab.kept k⟩
theorem TS.put1 {w:World} {B:Nat} {vR vO:Value} {ig:Bs} {n:Nat} {e1 e2 e3:List (Int × Value)} (h:TS w B vR vO ig n e1 e2 e3) (e:List (Int × Value)):TS (zoZ w (B+1+1) e) B vR vO ig n e e2 e3 :=
 have o:=zc7 w (B+1+1) e
 ⟨h.box.onl o (by omega),h.res.onl o (by omega),zh9 w _ e h.m1.lt,h.m2.only o (by omega),h.m3.only o (by omega),h.tab.onl o (by omega)⟩
theorem TS.put2 {w:World} {B:Nat} {vR vO:Value} {ig:Bs} {n:Nat} {e1 e2 e3:List (Int × Value)} (h:TS w B vR vO ig n e1 e2 e3) (e:List (Int × Value)):TS (zoZ w (B+1+1+1) e) B vR vO ig n e1 e e3 :=
 have o:=zc7 w (B+1+1+1) e
 ⟨h.box.onl o (by omega),h.res.onl o (by omega),h.m1.only o (by omega),zh9 w _ e h.m2.lt,h.m3.only o (by omega),h.tab.onl o (by omega)⟩
theorem TS.put3 {w:World} {B:Nat} {vR vO:Value} {ig:Bs} {n:Nat} {e1 e2 e3:List (Int × Value)} (h:TS w B vR vO ig n e1 e2 e3) (e:List (Int × Value)):TS (zoZ w (B+1+1+1+1) e) B vR vO ig n e1 e2 e :=
 have o:=zc7 w (B+1+1+1+1) e
 ⟨h.box.onl o (by omega),h.res.onl o (by omega),h.m1.only o (by omega),h.m2.only o (by omega),zh9 w _ e h.m3.lt,h.tab.onl o (by omega)⟩
def TabR (w:World) (v:Value) (c:ColT):Prop:=∃ m1 m2 m3 es,v=.agg #[.map (some m1),.map (some m2),.map (some m3),.int .i64 c.order.length]/\MapV w m1 (ze5 (zcR c.ignore))/\MapV w m2 es/\ValsR w es c/\MapV w m3 (zFz c)
theorem TabR.kept {w w':World} {v:Value} {c:ColT} (h:TabR w v c) (k:Kept w w'):TabR w' v c:=by
 obtain ⟨m1,m2,m3,es,hv,h1,h2,h3,h4⟩:=h;exact ⟨m1,m2,m3,es,hv,h1.kept k,h2.kept k,h3.kept k,h4.kept k⟩
theorem zCq (w:World) (vR vO:Value) (ig:Bs) (n:Nat) :
  TS ((((((w.alloc (.cells #[vR,vO,.string (bs ig)] 88)).alloc (.cells zCp 196)).alloc (.map #[] 0)).alloc (.map #[] 0)).alloc (.map #[] 0)).alloc (.cells #[.map (some (w.heap.size+1+1)),.map (some (w.heap.size+1+1+1)),.map (some (w.heap.size+1+1+1+1)),.int .i64 n] 196)) w.heap.size vR vO ig n [] [] []:=by
 have k:∀ (w:World) (o:Obj),Kept w (w.alloc o):=zaA;have s:∀ (w:World) (o:Obj),(w.alloc o).heap.size=w.heap.size+1:=fun w o=>(by simp);refine ⟨?_,?_,?_,?_,?_,?_⟩
 ·exact (((((Blk.new w _ _).alloc _).alloc _).alloc _).alloc _).alloc _
 ·have h:=Blk.new (w.alloc (.cells #[vR,vO,.string (bs ig)] 88)) 196 zCp;rw[s] at h;exact (((h.alloc _).alloc _).alloc _).alloc _
 ·have h:=MapV.made ((w.alloc (.cells #[vR,vO,.string (bs ig)] 88)).alloc (.cells zCp 196));rw[s,s] at h;exact ((h.kept (k _ _)).kept (k _ _)).kept (k _ _)
 ·have h:=MapV.made (((w.alloc (.cells #[vR,vO,.string (bs ig)] 88)).alloc (.cells zCp 196)).alloc (.map #[] 0));rw[s,s,s] at h;exact (h.kept (k _ _)).kept (k _ _)
 ·have h:=MapV.made ((((w.alloc (.cells #[vR,vO,.string (bs ig)] 88)).alloc (.cells zCp 196)).alloc (.map #[] 0)).alloc (.map #[] 0));rw[s,s,s,s] at h;exact h.kept (k _ _)
 ·have h:=Blk.new (((((w.alloc (.cells #[vR,vO,.string (bs ig)] 88)).alloc (.cells zCp 196)).alloc (.map #[] 0)).alloc (.map #[] 0)).alloc (.map #[] 0)) 196 #[.map (some (w.heap.size+1+1)),.map (some (w.heap.size+1+1+1)),.map (some (w.heap.size+1+1+1+1)),.int .i64 n];rw[s,s,s,s,s] at h;exact h
theorem zEa (w:World) (o1 o2 o3 o4 o5 o6:Obj):Kept w ((((((w.alloc o1).alloc o2).alloc o3).alloc o4).alloc o5).alloc o6) :=
 (((((zaA _ _).trans (zaA _ _)).trans (zaA _ _)).trans (zaA _ _)).trans (zaA _ _)).trans (zaA _ _)
theorem zwN (vR vO:Value) (c:ColT) (w:World) (hv:Col w vR vO c) (hs:SmallC c) :
  Calls Tryz.prog 144 #[zmZ vR vO c.ignore] w fun e w'=>∃ v,e=.returned v/\TabR w' v c/\Kept w w':=by
 obtain ⟨s1,s2,s3,s4,s5⟩:=hs;have HV:=Hd hv;obtain ⟨aR,cR,rfl,lR⟩:=hv.1.form;obtain ⟨aO,cO,rfl,lO⟩:=hv.2.form;have HS4:=Hd s4;have HS5:=Hd s5;clear hv s4 s5;have mk1:=fun w=>run_makeMap (P:=Tryz.prog) 116 w;have mk2:=fun w=>run_makeMap (P:=Tryz.prog) 193 w;have mk3:=fun w=>run_makeMap (P:=Tryz.prog) 194 w;have HTS:=Hd (zCq w (.slice aR c.ranks.length cR) (.slice aO c.order.length cO) c.ignore c.order.length);have HKS:=Hd (zEa w (.cells #[.slice aR c.ranks.length cR,.slice aO c.order.length cO,.string (bs c.ignore)] 88) (.cells zCp 196) (.map #[] 0) (.map #[] 0) (.map #[] 0) (.cells #[.map (some (w.heap.size+1+1)),.map (some (w.heap.size+1+1+1)),.map (some (w.heap.size+1+1+1+1)),.int .i64 c.order.length] 196));have HL0:=Hd (fun w=>zhP c.ignore w (by omega));unfold IntsP at HL0;have hig:=zd8 c.ignore;go_enter Tryz.func144,Tryz.ntmps144;go_wp2_with fail;generalize (((((w.alloc (.cells #[.slice aR c.ranks.length cR,.slice aO c.order.length cO,.string (bs c.ignore)] 88)).alloc (.cells zCp 196)).alloc (.map #[] 0)).alloc (.map #[] 0)).alloc (.map #[] 0)).alloc (.cells #[.map (some (w.heap.size+1+1)),.map (some (w.heap.size+1+1+1)),.map (some (w.heap.size+1+1+1+1)),.int .i64 c.order.length] 196)=w0 at *;refine (HL0.out _).mono ?_;rintro e w1 ⟨v1,rfl,hv1,hk1⟩;have HV1:=Hd hv1;have HT1:=Hd (HTS.out.kept hk1);have HK1:=Hd (HKS.out.trans hk1);obtain ⟨a1,c1,rfl,hc1⟩:=hv1.form;obtain ⟨xs,HXE⟩:∃ xs,Hid (zcR c.ignore=xs):=⟨_,rfl⟩;rw[HXE.out] at HV1 hc1 hig ⊢;have HXS:Hid (ze5 xs=ze5 (xs.take xs.length)):=by
  show _=_;rw[List.take_of_length_le (Nat.le_refl _)]
 clear hv1 hk1 HTS HKS HL0;go_wp2_with fail;go_loopw [28] (fun i wr=>∃ k:Nat,k<=xs.length/\i=.int .i64 k/\Hid (TS wr w.heap.size (.slice aR c.ranks.length cR) (.slice aO c.order.length cO) c.ignore c.order.length (ze5 (xs.take k)) [] [])/\Hid (Only (fun i=>i=w.heap.size+1+1) w1 wr)) (fun i _=>xs.length - (intOf i).toNat)
 case atStart=>exact ⟨0,Nat.zero_le _,rfl,HT1.out,Only.of_kept (Kept.refl _)⟩
 case round =>
  obtain ⟨k,hk,rfl,HT,HO⟩:=hrel;have HKW:Hid (Kept w wr):=zcB HK1.out HO.out (by omega);by_cases hlt:k<xs.length
  ·obtain ⟨y,hx⟩:∃ y,xs[k]? = some y:=⟨_,List.getElem?_eq_getElem hlt⟩;obtain ⟨g,o,rfl,hg,d0⟩:=(HV1.out.map HT1.out.m1 HO.out).cell_of k y hx;have t0:wr.cell? ⟨w.heap.size+1+1+1+1+1,0,none⟩=some (.map (some (w.heap.size+1+1))):=HT.out.tab.cell 0 _ rfl;have zt:=HT.out.tab.lt;have HNX:Hid (ze5 (xs.take (k+1))=if (zdI (ze5 (xs.take k)) y).isSome=true then ze5 (xs.take k) else ze5 (xs.take k) ++ [(y,.bool true)]):=by
    show _=_;obtain ⟨hk',rfl⟩:=List.getElem?_eq_some_iff.1 hx;rw[List.take_succ_eq_append_getElem hk',ze6]
   have up:(Instr.mapUpdate 116 (.map (some (w.heap.size+1+1))) (.int .i64 y) (.bool true)).run Tryz.prog wr=.ok () (zoZ wr (w.heap.size+1+1) (ze5 (xs.take (k+1)))):=by
    cases hgv:zdI (ze5 (xs.take k)) y with
    | none =>
     rw[HNX.out,hgv];exact zEY (P:=Tryz.prog) Tryz.underlying116 Tryz.underlying3 wr _ _ y (.bool true) HT.out.m1 hgv
    | some u =>
     have hu:u=.bool true:=by
      have:=zs9 (xs.take k) y;rw[hgv] at this
      split at this
      ·exact Option.some.inj this
      ·cases this
     subst hu;rw[HNX.out,hgv];exact zyU (P:=Tryz.prog) Tryz.underlying116 Tryz.underlying3 wr _ _ y (.bool true) HT.out.m1 hgv
   have HT2:=Hd (HT.out.put1 (ze5 (xs.take (k+1))));have HO2:=Hd (HO.out.trans (zc7 wr (w.heap.size+1+1) (ze5 (xs.take (k+1)))));generalize zoZ wr (w.heap.size+1+1) (ze5 (xs.take (k+1)))=w5 at *;clear hx;go_wp2_with fail;go_roundw
   case rel=>exact ⟨k+1,by omega,by go_num,HT2.out,HO2.out⟩
   case measure=>simp [intOf];omega
  ·obtain rfl:k=xs.length:=(by omega);rw[<- HXS.out] at HT;have b0:wr.cell? ⟨w.heap.size,0,none⟩=some (.slice aR c.ranks.length cR):=HT.out.box.cell 0 _ rfl;have z0:=HT.out.box.lt;obtain ⟨E1,HE1⟩:∃ E1,Hid (ze5 xs=E1):=⟨_,rfl⟩;rw[HE1.out] at HT;clear HXS HO HV1 HT1 HK1 hlt;go_wp2_with fail;clear b0 z0;go_loopw [39] (fun i wr=>∃ (k:Nat) (es:List (Int × Value)),k<=c.ranks.length/\i=.int .i64 k/\Hid (TS wr w.heap.size (.slice aR c.ranks.length cR) (.slice aO c.order.length cO) c.ignore c.order.length E1 es [])/\Hid (ValsR wr es ⟨c.ranks.take k,c.order,c.ignore⟩)/\Hid (ValsF es (w.heap.size+1+1))/\Hid (Kept w wr)) (fun i _=>c.ranks.length - (intOf i).toNat)
   case atStart=>exact ⟨0,[],Nat.zero_le _,rfl,HT.out,ValsR.nil _ _ _,ValsF.nil _,HKW.out⟩
   case round =>
    clear HT HKW;obtain ⟨j,es,hj,rfl,HT,HVR,HVF,HKW⟩:=hrel;have hwr2:w.heap.size+1+1<=wr.heap.size:=(by have:=HT.out.tab.lt;omega);by_cases hlt2:j<c.ranks.length
    ·obtain ⟨p,hx⟩:∃ x,c.ranks[j]? = some x:=⟨_,List.getElem?_eq_getElem hlt2⟩;obtain ⟨hp1,hp2⟩:=HS5.out p (List.mem_of_getElem? hx);obtain ⟨g,o,rfl,hg,d0,d1,_,_⟩:=(HV.out.1.kept HKW.out).cell_of j p hx;have HTK:Hid (c.ranks.take (j+1)=c.ranks.take j ++ [p]):=by
      obtain ⟨hk',rfl⟩:=List.getElem?_eq_some_iff.1 hx;exact List.take_succ_eq_append_getElem hk'
     obtain ⟨x,y⟩:=p;simp only at hp1 hp2 d0 d1;have HLX:=Hd (fun w=>zhP x w (by omega));have HLY:=Hd (fun w=>ztI y w (by omega));unfold IntsP at HLX;unfold IntsQ at HLY;have hxl:=zd8 x;have HBX:=Hd (Blk.new wr 62 #[.string (bs x),.string (bs y)]);have HKX:=Hd (zaA wr (.cells #[.string (bs x),.string (bs y)] 62));have HSK:=Hd (fun w' (h:ValsR w' es ⟨c.ranks.take j,c.order,c.ignore⟩) hp=>zAa h (x,y) hp);have HOLD:=Hd (fun w' (h:ValsR w' es ⟨c.ranks.take j,c.order,c.ignore⟩) z u hp hu=>zCn h (x,y) z u hp hu);have HNEW:=Hd (fun w' (h:ValsR w' es ⟨c.ranks.take j,c.order,c.ignore⟩) z u hp hu hv=>zCo h (x,y) z u hp hu hv);rw[<- HTK.out] at HSK HOLD HNEW;simp only at HSK HOLD HNEW;clear hx HTK;generalize zcR x=px at *;generalize zcR y=py at *;go_wp2_with fail;refine (HLX.out _).mono ?_;rintro e w3 ⟨v3,rfl,hi3,hk3⟩;have HKA:=Hd (HKX.out.trans hk3);have HI3:=Hd hi3;have HT3:=Hd (HT.out.kept HKA.out);have HV3:=Hd (HVR.out.kept HKA.out);have HK3:=Hd (HKW.out.trans HKA.out);have HBX3:=Hd (HBX.out.kept hk3);obtain ⟨a3,c3,rfl,hc3⟩:=hi3.form;clear hk3 hi3 d0 d1 hg;by_cases hpx:px.length=1
     case neg =>
      have hpx':((px.length:Int) == 1)=false:=(by rw[beq_eq_false_iff_ne];omega);have HVN:=Hd (HSK.out w3 HV3.out hpx);clear HSK HOLD HNEW;go_wp2_with fail;go_roundw
      case rel=>exact ⟨j+1,es,by omega,by go_num,HT3.out,HVN.out,HVF.out,HK3.out⟩
      case measure=>simp [intOf];omega
     obtain ⟨z,rfl⟩:∃ z,px=[z]:=List.length_eq_one_iff.1 hpx;obtain ⟨g3,o3,rfl,hg3,q0⟩:=HI3.out.cell_of 0 z rfl;rw[Nat.add_zero] at q0;have t1:w3.cell? ⟨w.heap.size+1+1+1+1+1,1,none⟩=some (.map (some (w.heap.size+1+1+1))):=HT3.out.tab.cell 1 _ rfl;have zt:=HT3.out.tab.lt;have lk:=fun w' (h:MapV w' (w.heap.size+1+1+1) es)=>zkW (P:=Tryz.prog) Tryz.underlying193 Tryz.underlying3 w' (w.heap.size+1+1+1) es z (.slice none 0 0) (Tryz.zeroInts w') h;simp only[List.length_cons,List.length_nil,Nat.zero_add] at hc3 HI3 ⊢;cases hgv:zdI es z with
     | some u =>
      have HVN:=Hd (HOLD.out w3 HV3.out z u rfl hgv);simp only[hgv] at lk;have lkq:=fun n=>lk (w3.drewN n) (HT3.out.kept (zaB w3 n)).m2;clear HSK HOLD HNEW lk hgv;go_wp2_with fail
      go_quiet (fail)
      go_wp2_with fail;go_roundw
      case rel=>exact ⟨j+1,es,by omega,by go_num,HT3.out.kept (zaB _ _),HVN.out.kept (zaB _ _),HVF.out,HK3.out.trans (zaB _ _)⟩
      case measure=>simp [intOf];omega
     | none =>
      simp only[hgv] at lk;have lkq:=fun n=>lk (w3.drewN n) (HT3.out.kept (zaB w3 n)).m2;have HGV:=Hd hgv;clear HSK HOLD lk hgv;go_wp2_with fail
      go_quiet (fail)
      have HT4:=Hd (HT3.out.kept (zaB w3 nq));have HV4:=Hd (HV3.out.kept (zaB w3 nq));have HK4:=Hd (HK3.out.trans (zaB w3 nq));have HBX4:=Hd (HBX3.out.kept (zaB w3 nq));have HI4:=Hd (HI3.out.kept (zaB w3 nq));clear q0 t1 zt lkq hg3 HT3 HV3 HK3 HBX3 HI3 HKA;generalize w3.drewN nq=w4 at *;go_wp2_with fail;obtain ⟨g4,o4,he4,hg3,q0⟩:=HI4.out.cell_of 0 z rfl;obtain ⟨rfl,rfl⟩:g4=g3/\o4=o3:=(by cases he4;exact ⟨rfl,rfl⟩);rw[Nat.add_zero] at q0;have t1:w4.cell? ⟨w.heap.size+1+1+1+1+1,1,none⟩=some (.map (some (w.heap.size+1+1+1))):=HT4.out.tab.cell 1 _ rfl;have zt:=HT4.out.tab.lt;have p1:w4.cell? ⟨wr.heap.size,1,none⟩=some (.string (bs y)):=HBX4.out.cell 1 _ rfl;have zp:=HBX4.out.lt;have hnp:¬ wr.heap.size=w.heap.size+1+1+1:=HBX4.out.no_map HT4.out.m2;have hng:¬ g4=w.heap.size+1+1+1:=by
       rintro rfl;rw[HT4.out.m2.no_cell] at q0;cases q0
      have HCC:Hid (∀ w',Only (fun i=>i=w.heap.size+1+1+1) w4 w'->(w'.cell? ⟨w.heap.size+1+1+1+1+1,1,none⟩=some (.map (some (w.heap.size+1+1+1)))/\w'.cell? ⟨wr.heap.size,1,none⟩=some (.string (bs y))/\w'.cell? ⟨g4,o4,none⟩=some (.int .i64 z))/\(w.heap.size+1+1+1+1+1<w'.heap.size/\wr.heap.size<w'.heap.size/\g4<w'.heap.size)/\Only (fun i=>i=w.heap.size+1+1+1) w4 w'):=fun w' h =>
       ⟨⟨(h.cell _ 1 zt (by omega)).trans t1,(h.cell _ 1 zp hnp).trans p1,(h.cell g4 o4 hg3 hng).trans q0⟩,⟨Nat.lt_of_lt_of_le zt h.size,Nat.lt_of_lt_of_le zp h.size,Nat.lt_of_lt_of_le hg3 h.size⟩,h⟩
      have HUP:Hid (∀ w' v,Kept w4 w'->(Instr.mapUpdate 193 (.map (some (w.heap.size+1+1+1))) (.int .i64 z) v).run Tryz.prog w'=.ok () (zoZ w' (w.heap.size+1+1+1) (es ++ [(z,v)]))):=fun w' v h =>
       zEY (P:=Tryz.prog) Tryz.underlying193 Tryz.underlying3 w' _ es z v (HT4.out.kept h).m2 HGV.out
      have hkd:Kept w4 w4.drew:=zaB w4 1;have okd:Only (fun i=>i=w.heap.size+1+1+1) w4 w4.drew:=Only.of_kept hkd
      go_region_held3 (fun w'=>(w'.cell? ⟨w.heap.size+1+1+1+1+1,1,none⟩=some (.map (some (w.heap.size+1+1+1)))/\w'.cell? ⟨wr.heap.size,1,none⟩=some (.string (bs y))/\w'.cell? ⟨g4,o4,none⟩=some (.int .i64 z))/\(w.heap.size+1+1+1+1+1<w'.heap.size/\wr.heap.size<w'.heap.size/\g4<w'.heap.size)/\Only (fun i=>i=w.heap.size+1+1+1) w4 w')
       ((refine HCC.out _ ?_;assumption))
       (first
        | (go_at_call 192;refine (HLY.out _).mono ?_;rintro e w5 ⟨v5,rfl,hi5,hf5,hk5⟩;have k5:Kept w4 w5:=hkd.trans hk5;have HF5:=Hd hf5;have HI5:=Hd hi5;have up5:=HUP.out w5 v5 k5;have o5:Only (fun i=>i=w.heap.size+1+1+1) w4 w5:=Only.of_kept k5;have o6:=o5.trans (zc7 w5 (w.heap.size+1+1+1) (es ++ [(z,v5)]));obtain ⟨a5,c5,rfl,hc5⟩:=hi5.form;clear hk5 hi5 hf5))
      all_goals
       have HF5:∀ g,(Value.slice a5 py.length c5).ownBlock=some g->w.heap.size+1+1<=g:=fun g h=>by
        have:=HF5.out g h;have h8:w4.heap.size<=g:=this;have:=HT4.out.tab.lt;omega
       have HT5:=Hd ((HT4.out.kept k5).put2 (es ++ [(z,Value.slice a5 py.length c5)]));have HM5:=Hd (HT4.out.kept k5).m2;have HO5:=Hd (zc7 w5 (w.heap.size+1+1+1) (es ++ [(z,Value.slice a5 py.length c5)]));have HV5:=Hd (HNEW.out _ ((HV4.out.kept k5).onl HM5.out HO5.out) z (Value.slice a5 py.length c5) rfl HGV.out (HI5.out.map HM5.out HO5.out));have HK5:=Hd (zcB (HK4.out.trans k5) HO5.out (by omega));clear HUP HCC up5 o5 o6 okd hkd;generalize zoZ w5 (w.heap.size+1+1+1) (es ++ [(z,Value.slice a5 py.length c5)])=w6 at *;go_wp2_with fail;go_roundw
       case rel=>exact ⟨j+1,es ++ [(z,Value.slice a5 py.length c5)],by omega,by go_num,HT5.out,HV5.out,HVF.out.push z _ HF5,HK5.out⟩
       case measure=>simp [intOf];omega
    ·obtain rfl:j=c.ranks.length:=(by omega);rw[List.take_of_length_le (Nat.le_refl _)] at HVR;have HVRC:Hid (ValsR wr es c):=HVR.out;have b1:wr.cell? ⟨w.heap.size,1,none⟩=some (.slice aO c.order.length cO):=HT.out.box.cell 1 _ rfl;have z1:=HT.out.box.lt;have H00:Hid (([]:List (Int × Value))=zxM (c.order.take 0) 0 []):=rfl;clear HVR hlt2;go_wp2_with fail;clear b1 z1;go_loopw [72] (fun i wr2=>∃ k:Nat,k<=c.order.length/\i=.int .i64 k/\Hid (TS wr2 w.heap.size (.slice aR c.ranks.length cR) (.slice aO c.order.length cO) c.ignore c.order.length E1 es (zxM (c.order.take k) 0 []))/\Hid (ValsR wr2 es c)/\Hid (Kept w wr2)) (fun i _=>c.order.length - (intOf i).toNat)
     case atStart=>exact ⟨0,Nat.zero_le _,rfl,HT.out,HVRC.out,HKW.out⟩
     case round =>
      clear HT HVRC HKW;obtain ⟨k,hk,rfl,HT,HVR,HKW⟩:=hrel;by_cases hlt3:k<c.order.length
      ·obtain ⟨s,hx⟩:∃ x,c.order[k]? = some x:=⟨_,List.getElem?_eq_getElem hlt3⟩;have hsl:=HS4.out s (List.mem_of_getElem? hx);obtain ⟨g,o,rfl,hg,d0,_,_⟩:=(HV.out.2.kept HKW.out).cell_of k s hx;have HGN:Hid (zxM (c.order.take (k+1)) 0 []=znC k (zxM (c.order.take k) 0 []) (zcR s)):=by
        show _=_;obtain ⟨hk',rfl⟩:=List.getElem?_eq_some_iff.1 hx;rw[List.take_succ_eq_append_getElem hk',zqY];congr 1;simp;omega
       have HLS:=Hd (fun w=>zhP s w (by omega));unfold IntsP at HLS;have hpl:=zd8 s;clear hx;generalize zcR s=ps at *;generalize zxM (c.order.take k) 0 []=e3 at *;go_wp2_with fail;refine (HLS.out _).mono ?_;rintro e w3 ⟨v3,rfl,hi3,hk3⟩;have HI3:=Hd hi3;have HT3:=Hd (HT.out.kept hk3);have HV3:=Hd (HVR.out.kept hk3);have HK3:=Hd (HKW.out.trans hk3);obtain ⟨a3,c3,rfl,hc3⟩:=hi3.form;clear hk3 hi3 d0 hg HT HVR HKW;go_wp2_with fail;go_loopw [80] (fun i wr3=>∃ n:Nat,n<=ps.length/\i=.int .i64 n/\Hid (TS wr3 w.heap.size (.slice aR c.ranks.length cR) (.slice (some ⟨g,o,none⟩) c.order.length cO) c.ignore c.order.length E1 es (znC k e3 (ps.take n)))/\Hid (Only (fun i=>i=w.heap.size+1+1+1+1) w3 wr3)) (fun i _=>ps.length - (intOf i).toNat)
       case atStart=>exact ⟨0,Nat.zero_le _,rfl,HT3.out,Only.of_kept (Kept.refl _)⟩
       case round =>
        obtain ⟨n,hn,rfl,HT,HO⟩:=hrel;have HVR:Hid (ValsR wr es c):=HV3.out.onl HT3.out.m3 HO.out;have HKW:Hid (Kept w wr):=zcB HK3.out HO.out (by omega);by_cases hlt4:n<ps.length
        ·obtain ⟨y,hx⟩:∃ y,ps[n]? = some y:=⟨_,List.getElem?_eq_getElem hlt4⟩;obtain ⟨g,o,rfl,hg,d0⟩:=(HI3.out.map HT3.out.m3 HO.out).cell_of n y hx;have t2:wr.cell? ⟨w.heap.size+1+1+1+1+1,2,none⟩=some (.map (some (w.heap.size+1+1+1+1))):=HT.out.tab.cell 2 _ rfl;have zt:=HT.out.tab.lt;have HNX:Hid (znC k e3 (ps.take (n+1))=if (zdI (znC k e3 (ps.take n)) y).isSome=true then znC k e3 (ps.take n) else znC k e3 (ps.take n) ++ [(y,.int .i64 k)]):=by
          show _=_;obtain ⟨hk',rfl⟩:=List.getElem?_eq_some_iff.1 hx;rw[List.take_succ_eq_append_getElem hk',zy2]
         have lk:=zkW (P:=Tryz.prog) Tryz.underlying194 Tryz.underlying3 wr (w.heap.size+1+1+1+1) (znC k e3 (ps.take n)) y (.int .i64 0) (Tryz.zeroInt wr) HT.out.m3;clear hx;cases hgv:zdI (znC k e3 (ps.take n)) y with
         | some u =>
          rw[hgv] at HNX lk;rw[if_pos (by rfl)] at HNX;simp only[Option.getD_some,Option.isSome_some] at lk;rw[<- HNX.out] at HT;go_wp2_with fail;go_roundw
          case rel=>exact ⟨n+1,by omega,by go_num,HT.out,HO.out⟩
          case measure=>simp [intOf];omega
         | none =>
          rw[hgv] at HNX lk;rw[if_neg (by simp)] at HNX;simp only[Option.getD_none,Option.isSome_none] at lk;have up:=zEY (P:=Tryz.prog) Tryz.underlying194 Tryz.underlying3 wr _ _ y (.int .i64 k) HT.out.m3 hgv;rw[<- HNX.out] at up;have HT2:=Hd (HT.out.put3 (znC k e3 (ps.take (n+1))));have HO2:=Hd (HO.out.trans (zc7 wr (w.heap.size+1+1+1+1) (znC k e3 (ps.take (n+1)))));generalize zoZ wr (w.heap.size+1+1+1+1) (znC k e3 (ps.take (n+1)))=w5 at *;clear hgv HNX;go_wp2_with fail;go_roundw
          case rel=>exact ⟨n+1,by omega,by go_num,HT2.out,HO2.out⟩
          case measure=>simp [intOf];omega
        ·obtain rfl:n=ps.length:=(by omega);rw[List.take_of_length_le (Nat.le_refl _),<- HGN.out] at HT;go_wp2_with fail;go_roundw
         case rel=>exact ⟨k+1,by omega,by go_num,HT.out,HVR.out,HKW.out⟩
         case measure=>simp [intOf];omega
      ·obtain rfl:k=c.order.length:=(by omega);rw[List.take_of_length_le (Nat.le_refl _)] at HT;have t0:wr.cell? ⟨w.heap.size+1+1+1+1+1,0,none⟩=some (.map (some (w.heap.size+1+1))):=HT.out.tab.cell 0 _ rfl;have t1:wr.cell? ⟨w.heap.size+1+1+1+1+1,1,none⟩=some (.map (some (w.heap.size+1+1+1))):=HT.out.tab.cell 1 _ rfl;have t2:wr.cell? ⟨w.heap.size+1+1+1+1+1,2,none⟩=some (.map (some (w.heap.size+1+1+1+1))):=HT.out.tab.cell 2 _ rfl;have t3:wr.cell? ⟨w.heap.size+1+1+1+1+1,3,none⟩=some (.int .i64 c.order.length):=HT.out.tab.cell 3 _ rfl;have zt:=HT.out.tab.lt;have r0:wr.cell? ⟨w.heap.size+1,0,none⟩=some (.map none):=HT.out.res.cell 0 _ rfl;have r1:wr.cell? ⟨w.heap.size+1,1,none⟩=some (.map none):=HT.out.res.cell 1 _ rfl;have r2:wr.cell? ⟨w.heap.size+1,2,none⟩=some (.map none):=HT.out.res.cell 2 _ rfl;have r3:wr.cell? ⟨w.heap.size+1,3,none⟩=some (.int .i64 0):=HT.out.res.cell 3 _ rfl;have f0:=HT.out.res.free 0;have f1:=HT.out.res.free 1;have f2:=HT.out.res.free 2;have f3:=HT.out.res.free 3;have zr:=HT.out.res.lt;go_wp2_with fail;have hO:Only (fun i=>i=w.heap.size+1) wr ((((wr.setCell ⟨w.heap.size+1,0,none⟩ (.map (some (w.heap.size+1+1)))).setCell ⟨w.heap.size+1,1,none⟩ (.map (some (w.heap.size+1+1+1)))).setCell ⟨w.heap.size+1,2,none⟩ (.map (some (w.heap.size+1+1+1+1)))).setCell ⟨w.heap.size+1,3,none⟩ (.int .i64 c.order.length)) :=
        ((((Only.setCell _ 0 _).trans (Only.setCell _ 1 _)).trans (Only.setCell _ 2 _)).trans (Only.setCell _ 3 _))
       refine bodyPost_ret (v:=.agg #[.map (some (w.heap.size+1+1)),.map (some (w.heap.size+1+1+1)),.map (some (w.heap.size+1+1+1+1)),.int .i64 c.order.length]) (by simp [results,Tryz.results144,go_sem,r0,r1,r2,r3,zr]) rfl ?_;refine ⟨_,rfl,⟨_,_,_,es,rfl,?_,HT.out.m2.only hO (by omega),HVR.out.blk HVF.out (by omega) hO,HT.out.m3.only hO (by omega)⟩,zcB HKW.out hO (by omega)⟩;rw[HXE.out,HE1.out];exact HT.out.m1.only hO (by omega)
theorem zn9 (l:Bs):∀ (n k:Nat),l.length - k<=n->∀ y∈zqV l k,0<=y/\y<=1114111/\(y<55296\/57343<y)
 | 0,k,hk,y,hy=>by rw[zgY l k (by omega)] at hy;cases hy
 | n+1,k,hk,y,hy=>by
  by_cases q:k<l.length
  ·rw[zlW l k q] at hy;rcases List.mem_cons.1 hy with rfl|hy
   ·exact zmC (bs l) k
   ·have hb:=za7 (bs l) k (by simpa using q);exact zn9 l n _ (by omega) y hy
  ·rw[zgY l k q] at hy;cases hy
theorem zrP (l:Bs):∀ y∈zcR l,0<=y/\y<=1114111/\(y<55296\/57343<y):=zn9 l _ 0 (Nat.le_refl _)
theorem zmG {c:ColT} {x:Int} {ys:List Int} (h:zj8 c x=some ys):∀ y∈ys,0<=y/\y<=1114111/\(y<55296\/57343<y):=by
 unfold zj8 at h;cases hf:c.ranks.find? (fun p=>zcR p.1 == [x]) with
 | none=>rw[hf] at h;cases h
 | some p=>rw[hf] at h;cases h;exact zrP p.2
theorem ztJ {c:ColT} (hs:SmallC c) {x:Int} {ys:List Int} (h:zj8 c x=some ys):ys.length<=1000:=by
 unfold zj8 at h;cases hf:c.ranks.find? (fun p=>zcR p.1 == [x]) with
 | none=>rw[hf] at h;cases h
 | some p =>
  rw[hf] at h;cases h;have:=(hs.2.2.2.2 p (List.mem_of_find?_eq_some hf)).2;have h2:=zd8 p.2;simp only;omega
theorem zCr (v:Value) (c:ColT) (x:Int) (w:World) (hv:TabR w v c) (hs:SmallC c) (hx0:0<=x) (hx1:x<=1114111) :
  Calls Tryz.prog 193 #[v,.int .i64 x] w fun e w'=>e=.returned (.int .i64 (zc5 c x))/\Kept w w':=by
 obtain ⟨m1,m2,m3,es,rfl,h1,h2,h3,h4⟩:=hv;have hn:=hs.2.1;have HR:Hid (zc5 c x=if x=32 then 0 else match zDF c x with
  | some i=>(i:Int)+1
  | none=>(c.order.length:Int)+1+x):=rfl
 have hlen:∀ i,zDF c x=some i->i<c.order.length:=fun i h=>by
  unfold zDF at h;exact (List.findIdx?_eq_some_iff_getElem.1 h).1
 have lk:=zkW (P:=Tryz.prog) Tryz.underlying194 Tryz.underlying3 (w.alloc (.cells #[.map (some m1),.map (some m2),.map (some m3),.int .i64 c.order.length] 196)) m3 (zFz c) x (.int .i64 0) (Tryz.zeroInt _) (h4.kept (zaA _ _));rw[zDZ] at lk;generalize zc5 c x=R at *;generalize c.order.length=n at *;clear h1 h2 h3 h4;by_cases h32:x=32
 ·rw[if_pos h32] at HR;subst h32;clear lk;go_enter Tryz.func193,Tryz.ntmps193;go_wp2_with fail;go_ret;exact ⟨zaG HR.out.symm,zaA _ _⟩
 rw[if_neg h32] at HR;have h32':(x == 32)=false:=(by simpa using h32);cases hgi:zDF c x with
 | none =>
  rw[hgi] at HR lk;simp only[Option.map_none,Option.getD_none,Option.isSome_none] at lk;have HR2:Hid (R=(n:Int)+1+x):=HR;clear HR hgi hlen;go_enter Tryz.func193,Tryz.ntmps193;go_wp2_with fail;go_ret;exact ⟨zaG HR2.out.symm,zaA _ _⟩
 | some i =>
  have hi:=hlen i hgi;rw[hgi] at HR lk;simp only[Option.map_some,Option.getD_some,Option.isSome_some] at lk;have HR2:Hid (R=(i:Int)+1):=HR;clear HR hgi hlen;go_enter Tryz.func193,Tryz.ntmps193;go_wp2_with fail;go_ret;exact ⟨zaG HR2.out.symm,zaA _ _⟩
theorem zEb (c:ColT) (s:Bs) (k:Nat) (h:k<s.length):(zqV s k).flatMap (zeF c)=zeF c (dec (bs s) k).1 ++ (zqV s (k+(dec (bs s) k).2.toNat)).flatMap (zeF c):=by
 rw[zlW s k h,List.flatMap_cons]
def RowQ (xs:List Int) (w:World) (e:Ending) (w':World):Prop:=∃ v,e=.returned v/\w'.ownsRow w.heap.size 3 1 v xs.length (zi6 xs)/\Kept w w'
theorem zEc (v:Value) (c:ColT) (s:Bs) (w:World) (hv:TabR w v c) (hs:SmallC c) (hl:s.length<=100000) :
  Calls Tryz.prog 146 #[v,.string (bs s)] w (RowQ (zdT c s) w):=by
 obtain ⟨i0,hi,hz0,hz1,hz2⟩:=info_parts Tryz.infoInt;have HTR:=Hd hv;have HRK:=Hd (fun w' x (h:Kept w w') h0 h1=>zCr v c x w' (hv.kept h) hs h0 h1);obtain ⟨m1,m2,m3,es,rfl,h1,h2,h3,h4⟩:=hv;have HM1:=Hd h1;have HM2:=Hd h2;have HVR:=Hd h3;have HVL:Hid (∀ x ys,zj8 c x=some ys->ys.length<=1000/\∀ y∈ys,0<=y/\y<=1114111/\(y<55296\/57343<y)):=fun x ys h=>⟨ztJ hs h,zmG h⟩;clear h1 h2 h3 h4;have H0:Hid (zdT c s=[] ++ (zqV s 0).flatMap (zeF c)):=(by show _=_;rw[ziD];rfl);have HB0:=Hd (Blk.new w 196 #[.map (some m1),.map (some m2),.map (some m3),.int .i64 c.order.length]);have HK0:=Hd (zaA w (.cells #[.map (some m1),.map (some m2),.map (some m3),.int .i64 c.order.length] 196));unfold RowQ;go_enter Tryz.func146,Tryz.ntmps146;go_wp2_with fail;go_loopw [5] (fun v wr=>∃ (pos:Nat) (xs:List Int),pos<=s.length/\xs.length<=1000 * pos/\wr.heap[w.heap.size+1]? = some (.stringIter (bs s) pos)/\wr.ownsRow (w.heap.size+2) 3 1 v xs.length (zi6 xs)/\Hid (zdT c s=xs ++ (zqV s pos).flatMap (zeF c))/\Hid (Blk wr w.heap.size 196 #[.map (some m1),.map (some m2),.map (some m3),.int .i64 c.order.length])/\Hid (Kept w wr)) (fun _ wr=>s.length - wr.iterPos (w.heap.size+1))
 case atStart=>exact ⟨0,[],Nat.zero_le _,Nat.zero_le _,by have h:=World.iter_heap (w.alloc (.cells #[.map (some m1),.map (some m2),.map (some m3),.int .i64 c.order.length] 196)) (bs s) 0;simpa using h,World.ownsRow_nil _ _ _ _,H0.out,HB0.out.alloc _,HK0.out.trans (zaA _ _)⟩
 case round =>
  obtain ⟨pos,xs,hp,hxl,hit,hown,HA,HB,HK⟩:=hrel;have hip:wr.iterPos (w.heap.size+1)=pos:=(by simp [World.iterPos,hit]);have hsz:w.heap.size+1<wr.heap.size:=by
   rcases Nat.lt_or_ge (w.heap.size+1) wr.heap.size with q|q
   ·exact q
   ·rw[Array.getElem?_eq_none q] at hit;cases hit
  by_cases hlt:pos<s.length
  ·have nx:=fun ty=>zc1 (P:=Tryz.prog) wr (w.heap.size+1) (bs s) pos ty hit hlt;have hb:=za7 (bs s) pos hlt;have hdv:=zmC (bs s) pos;have HP:=Hd (zEb c s pos hlt);have hitW:(wr.iterAt (w.heap.size+1) (bs s) (pos+(dec (bs s) pos).2.toNat)).heap[w.heap.size+1]? = some (.stringIter (bs s) (pos+(dec (bs s) pos).2.toNat)):=Lib.iterAt_heap wr (w.heap.size+1) (bs s) pos _ hit;have hkW:Kept w (wr.iterAt (w.heap.size+1) (bs s) (pos+(dec (bs s) pos).2.toNat)):=Lib.below_iterAt HK.out (by omega) (bs s) _;have hoW:=zhO hown hit (bs s) (pos+(dec (bs s) pos).2.toNat);have hbW:=HB.out.onl (zlZ wr (w.heap.size+1) (bs s) (pos+(dec (bs s) pos).2.toNat)) (by omega);have hzW:(wr.iterAt (w.heap.size+1) (bs s) (pos+(dec (bs s) pos).2.toNat)).heap.size=wr.heap.size:=Lib.iterAt_size ..;obtain ⟨x,n,hd⟩:∃ c n,dec (bs s) pos=(c,n):=⟨(dec (bs s) pos).1,(dec (bs s) pos).2,rfl⟩;rw[hd] at nx hb hdv HP hitW hkW hoW hbW hzW;simp only at nx hb hdv HP hitW hkW hoW hbW hzW;obtain ⟨b1,b2,b3,b4,b5⟩:=hb;simp only[zeC] at b5;obtain ⟨hx0,hx1,_⟩:=hdv;obtain ⟨W,HW⟩:∃ W,Hid (wr.iterAt (w.heap.size+1) (bs s) (pos+n.toNat)=W):=⟨_,rfl⟩;simp only[HW.out] at nx hitW hkW hoW hbW hzW;have HITW:=Hd hitW;have HKW:=Hd hkW;have HOW:=Hd hoW;have HBW:=Hd hbW;have HIP:=Hd hip;have hszW:w.heap.size+1<W.heap.size:=(by omega);have t0:W.cell? ⟨w.heap.size,0,none⟩=some (.map (some m1)):=hbW.cell 0 _ rfl;have t1:W.cell? ⟨w.heap.size,1,none⟩=some (.map (some m2)):=hbW.cell 1 _ rfl;have t2:W.cell? ⟨w.heap.size,2,none⟩=some (.map (some m3)):=hbW.cell 2 _ rfl;have t3:W.cell? ⟨w.heap.size,3,none⟩=some (.int .i64 c.order.length):=hbW.cell 3 _ rfl;have lk1:=zv4 (P:=Tryz.prog) Tryz.underlying116 Tryz.underlying3 W m1 (ze5 (zcR c.ignore)) x (.bool false) (Tryz.zeroBool W) (HM1.out.kept hkW);rw[zgZ] at lk1;have HK1:Hid (zeF c x=if (zcR c.ignore).contains x=true then [] else match zj8 c x with
    | some v=>v.map (zc5 c)
    | none=>[zc5 c x]):=rfl
   clear hitW hkW hoW hbW hzW hd hip hit hown HK HB;cases hct:(zcR c.ignore).contains x
   case true =>
    rw[hct] at lk1 HK1;rw[if_pos rfl] at HK1;have hown:=HOW.out;go_wp2_with fail;go_roundw
    case rel=>exact ⟨pos+n.toNat,xs,by omega,by omega,HITW.out,hown,by show _=_;rw[HA.out,HP.out,HK1.out];simp,HBW.out,HKW.out⟩
    case measure=>rw[HIP.out];have:=HITW.out;simp [World.iterPos,this];omega
   rw[hct] at lk1 HK1;rw[if_neg (by simp)] at HK1;have lk2:=zkW (P:=Tryz.prog) Tryz.underlying193 Tryz.underlying3 W m2 es x (.slice none 0 0) (Tryz.zeroInts W) (HM2.out.kept HKW.out);have HVX:=Hd (HVR.out x);cases hval:zj8 c x with
   | none =>
    rw[hval] at HVX HK1;have hgn:zdI es x=none:=HVX.out;rw[hgn] at lk2;simp only[Option.getD_none,Option.isSome_none] at lk2;have HK2:Hid (zeF c x=[zc5 c x]):=HK1;have HRX:=Hd (fun w' h=>HRK.out w' x h hx0 hx1);generalize zc5 c x=r at *;clear hval hgn HK1;go_wp2_with fail;refine (HRX.out _ HKW.out).mono ?_;rintro e w3 ⟨rfl,hk3⟩;have HK3:=Hd (HKW.out.trans hk3);have HB3:=Hd (HBW.out.kept hk3);have HIT3:Hid (w3.heap[w.heap.size+1]? = some (.stringIter (bs s) (pos+n.toNat))):=by
     show _=_;rw[hk3.block _ hszW];exact HITW.out
    have hown:=zaP HOW.out hk3;have hsz3:W.heap.size<=w3.heap.size:=hk3.size;clear hk3 t0 t1 t2 t3;go_wp2_with (at_builtin;refine wpList_append_own _ rfl _ _ 199 rfl (w.heap.size+2) 3 i0 (.int .i64 0) 1 8 Tryz.underlying199 hi hz0 hz1 hz2 rfl (by decide) _ _ _ rfl (hown.alloc _) ⟨w3.heap.size,0,none⟩ 1 1 [.int .i64 r] rfl rfl (za0 _ #[.int .i64 r] _ _ (by simp)) (by intro u hu;simp at hu;subst hu;rfl) (by unfold maxLen;omega) (by omega) (by simp;omega) ?_;intro v' w4 hown2 hgrow2 _);have hb4:Below (w.heap.size+2) w3 w4:=((Below.refl _ w3).alloc (by omega) _).trans (zaI (hown.alloc _) hgrow2 (by simp;omega));have HK4:=Hd (HK3.out.trans' (hb4.mono (by omega)));have HB4:Hid (Blk w4 w.heap.size 196 #[.map (some m1),.map (some m2),.map (some m3),.int .i64 c.order.length]):=(hb4.block _ (by omega)).trans HB3.out;have HIT4:Hid (w4.heap[w.heap.size+1]? = some (.stringIter (bs s) (pos+n.toNat))):=(hb4.block _ (by omega)).trans HIT3.out;rw[<- zgD] at hown2;have HO:=Hd hown2;clear hown2 hgrow2 hown hb4;go_wp2_with fail;go_roundw
    case rel=>exact ⟨pos+n.toNat,xs ++ [r],by omega,by simp;omega,HIT4.out,by simpa using HO.out,by show _=_;rw[HA.out,HP.out,HK2.out];simp,HB4.out,HK4.out⟩
    case measure=>rw[HIP.out];have:=HIT4.out;simp [World.iterPos,this];omega
   | some ys =>
    rw[hval] at HVX HK1;have hgs:∃ u,zdI es x=some u/\Ints w u ys:=HVX.out;obtain ⟨u,hu,hiu⟩:=hgs;rw[hu] at lk2;simp only[Option.getD_some,Option.isSome_some] at lk2;have HK2:Hid (zeF c x=ys.map (zc5 c)):=HK1;obtain ⟨hyl,hyr⟩:=HVL.out x ys hval;have HYR:=Hd hyr;have HIU:=Hd hiu;obtain ⟨au,cu,rfl,hcu⟩:=hiu.form;have hown:=HOW.out;clear hval hu HK1 HVX hyr hiu;go_wp2_with fail;clear t0 t1 t2 t3;go_loopw [5,41] (fun v i wr2=>∃ (j:Nat) (zs:List Int),j<=ys.length/\i=.int .i64 j/\zs.length=xs.length+j/\wr2.heap[w.heap.size+1]? = some (.stringIter (bs s) (pos+n.toNat))/\wr2.ownsRow (w.heap.size+2) 3 1 v zs.length (zi6 zs)/\Hid (zs=xs ++ (ys.take j).map (zc5 c))/\Hid (Blk wr2 w.heap.size 196 #[.map (some m1),.map (some m2),.map (some m3),.int .i64 c.order.length])/\Hid (Kept w wr2)) (fun _ i _=>ys.length - (intOf i).toNat)
    case atStart=>exact ⟨0,xs,Nat.zero_le _,rfl,rfl,HITW.out,hown,by show _=_;simp,HBW.out,HKW.out⟩
    case round =>
     clear hown HOW lk1 lk2 nx;obtain ⟨j,zs,hj,rfl,hzl,hit2,hown,HZ,HB2,HK2'⟩:=hrel;have hsz2:w.heap.size+1<wr.heap.size:=by
      rcases Nat.lt_or_ge (w.heap.size+1) wr.heap.size with q|q
      ·exact q
      ·rw[Array.getElem?_eq_none q] at hit2;cases hit2
     have HIT2:=Hd hit2;clear hit2;by_cases hlt2:j<ys.length
     ·obtain ⟨y,hy⟩:∃ y,ys[j]? = some y:=⟨_,List.getElem?_eq_getElem hlt2⟩;obtain ⟨g,o,rfl,hg,d0⟩:=(HIU.out.kept HK2'.out).cell_of j y hy;obtain ⟨hy0,hy1,_⟩:=HYR.out y (List.mem_of_getElem? hy);have HZ2:Hid (zs ++ [zc5 c y]=xs ++ (ys.take (j+1)).map (zc5 c)):=by
       show _=_;obtain ⟨hj',rfl⟩:=List.getElem?_eq_some_iff.1 hy;rw[List.take_succ_eq_append_getElem hj',HZ.out,List.map_append,List.append_assoc];rfl
      have HRX:=Hd (fun w' h=>HRK.out w' y h hy0 hy1);generalize zc5 c y=r at *;have t0:wr.cell? ⟨w.heap.size,0,none⟩=some (.map (some m1)):=HB2.out.cell 0 _ rfl;have t1:wr.cell? ⟨w.heap.size,1,none⟩=some (.map (some m2)):=HB2.out.cell 1 _ rfl;have t2:wr.cell? ⟨w.heap.size,2,none⟩=some (.map (some m3)):=HB2.out.cell 2 _ rfl;have t3:wr.cell? ⟨w.heap.size,3,none⟩=some (.int .i64 c.order.length):=HB2.out.cell 3 _ rfl;have HOWN:=Hd hown;clear hy hown;go_wp2_with fail;refine (HRX.out _ HK2'.out).mono ?_;rintro e w3 ⟨rfl,hk3⟩;have HK3:=Hd (HK2'.out.trans hk3);have HB3:=Hd (HB2.out.kept hk3);have HIT3:Hid (w3.heap[w.heap.size+1]? = some (.stringIter (bs s) (pos+n.toNat))):=by
       show _=_;rw[hk3.block _ hsz2];exact HIT2.out
      have hown:=zaP HOWN.out hk3;have hsz3:wr.heap.size<=w3.heap.size:=hk3.size;clear hk3 t0 t1 t2 t3 d0 hg;go_wp2_with (at_builtin;refine wpList_append_own _ rfl _ _ 199 rfl (w.heap.size+2) 3 i0 (.int .i64 0) 1 8 Tryz.underlying199 hi hz0 hz1 hz2 rfl (by decide) _ _ _ rfl (hown.alloc _) ⟨w3.heap.size,0,none⟩ 1 1 [.int .i64 r] rfl rfl (za0 _ #[.int .i64 r] _ _ (by simp)) (by intro u hu;simp at hu;subst hu;rfl) (by unfold maxLen;omega) (by omega) (by simp;omega) ?_;intro v' w4 hown2 hgrow2 _);have hb4:Below (w.heap.size+2) w3 w4:=((Below.refl _ w3).alloc (by omega) _).trans (zaI (hown.alloc _) hgrow2 (by simp;omega));have HK4:=Hd (HK3.out.trans' (hb4.mono (by omega)));have HB4:Hid (Blk w4 w.heap.size 196 #[.map (some m1),.map (some m2),.map (some m3),.int .i64 c.order.length]):=(hb4.block _ (by omega)).trans HB3.out;have HIT4:Hid (w4.heap[w.heap.size+1]? = some (.stringIter (bs s) (pos+n.toNat))):=(hb4.block _ (by omega)).trans HIT3.out;rw[<- zgD] at hown2;have HO:=Hd hown2;clear hown2 hgrow2 hown hb4;go_wp2_with fail;go_roundw
      case rel=>exact ⟨j+1,zs ++ [r],by omega,by go_num,by simp;omega,HIT4.out,by simpa using HO.out,HZ2.out,HB4.out,HK4.out⟩
      case measure=>simp [intOf];omega
     ·obtain rfl:j=ys.length:=(by omega);have HZZ:Hid (zs=xs ++ zeF c x):=by
       show _=_;have h:=HZ.out;rw[List.take_of_length_le (Nat.le_refl _)] at h;rw[h,HK2.out]
      have HOWN:=Hd hown;clear hown;go_wp2_with fail;go_roundw
      case rel=>exact ⟨pos+n.toNat,zs,by omega,by omega,HIT2.out,HOWN.out,by show _=_;rw[HA.out,HP.out,HZZ.out];simp,HB2.out,HK2'.out⟩
      case measure=>rw[HIP.out];have:=HIT2.out;simp [World.iterPos,this];omega
  ·have nx:=fun ty=>zbR (P:=Tryz.prog) wr (w.heap.size+1) (bs s) pos ty hit hlt;have HI:=Hd (zt8 hown (show w.heap.size<=w.heap.size+2 by omega));have HL:Hid (zdT c s=xs):=by
    show _=_;rw[HA.out,zgY s pos hlt];simp
   clear hown;go_wp2_with fail;go_ret;exact ⟨_,rfl,by rw[HL.out];exact HI.out,HK.out⟩
theorem zEd (v:Value) (c:ColT) (s:Bs) (w:World) (hv:TabR w v c) (hs:SmallC c) (hl:s.length<=100000) :
  Calls Tryz.prog 146 #[v,.string (bs s)] w (IntsQ (zdT c s) w) :=
 (zEc v c s w hv hs hl).mono fun _ _ ⟨v,h1,h2,h3⟩=>⟨v,h1,Ints.own h2,fun g hg=>(h2.lt g hg).1,h3⟩
theorem zAb (v:Value) (c:ColT) (s:Bs) (w:World) (hv:TabR w v c) (hs:SmallC c) (hl:s.length<=100000) :
  Calls Tryz.prog 146 #[v,.string (bs s)] w (IntsP (zdT c s) w) :=
 (zEd v c s w hv hs hl).mono fun _ _ ⟨v,h1,h2,_,h3⟩=>⟨v,h1,h2,h3⟩
theorem zAc (a b:UInt8):a<b↔(a.toNat:Int)<(b.toNat:Int):=by rw[UInt8.lt_iff_toNat_lt];omega
theorem zpK:∀ a b:Bs,Lib.compareBytes a b=zkJ a b
 | [],[]=>rfl
 | [],_ :: _=>rfl
 | _ :: _,[]=>rfl
 | a :: x,b :: y=>by
  have ih:=zpK x y;unfold zkJ at ih ⊢;rw[Lib.compareBytes,List.map_cons,List.map_cons,zeG,ih];simp only[zAc]
theorem zpL:∀ a b:Bs,Op.bytesLess a b=decide (zkJ a b<0)
 | [],[]=>rfl
 | [],_ :: _=>rfl
 | _ :: _,[]=>rfl
 | a :: x,b :: y=>by
  have ih:=zpL x y;unfold zkJ at ih ⊢;rw[Op.bytesLess,List.map_cons,List.map_cons,zeG,ih];by_cases h:a<b
  ·have h2:=(zAc a b).1 h;rw[if_pos h2];simp [h]
  ·have h2:¬ (a.toNat:Int)<(b.toNat:Int):=fun q=>h ((zAc a b).2 q);rw[if_neg h2];by_cases h3:b<a
   ·have h4:=(zAc b a).1 h3;have h5:¬ a=b:=(by rintro rfl;omega);rw[if_pos h4];simp [h,h5]
   ·have h4:¬ (b.toNat:Int)<(a.toNat:Int):=fun q=>h3 ((zAc b a).2 q);have h5:a=b:=UInt8.toNat_inj.1 (by omega);rw[if_neg h4];simp [h,h5]
theorem zoA (a b:Bs):zkJ a b = -1\/zkJ a b=0\/zkJ a b=1:=zg4 _ _
theorem zAd (a b:Bs) (h:zkJ a b=0):a=b:=zl8 a b (zfC _ _ h)
theorem zAe (a:Bs):zkJ a a=0:=ziO _
theorem zAf (v u:Value) (x y:List Int) (w:World) (hv:Ints w v x) (hu:Ints w u y) (hx:x.length<=200000000) (hy:y.length<=200000000) :
  Calls Tryz.prog 145 #[v,u] w fun e w'=>e=.returned (.int .i64 (zeG x y))/\w=w':=by
 have HV:=Hd hv;have HU:=Hd hu;obtain ⟨a,c,rfl,hc⟩:=hv.form;obtain ⟨b,d,rfl,hd⟩:=hu.form;clear hv hu;have HAT:=Hd (zzZ x y);have HEN:=Hd (zuY x y);obtain ⟨R,HR⟩:∃ R,Hid (zeG x y=R):=⟨_,rfl⟩;rw[HR.out];go_enter Tryz.func145,Tryz.ntmps145;go_wp2_with fail
 go_loop [11] (fun i=>∃ k:Nat,k<=x.length/\k<=y.length/\i=.int .i64 k/\Hid (zeG (x.drop k) (y.drop k)=R)) (fun i=>x.length - (intOf i).toNat)
 case atStart=>exact ⟨0,Nat.zero_le _,Nat.zero_le _,rfl,HR.out⟩
 case round =>
  obtain ⟨k,hk,hk2,rfl,HA⟩:=hrel;by_cases hlt:k<x.length
  ·obtain ⟨p,hp⟩:∃ z,x[k]? = some z:=⟨_,List.getElem?_eq_getElem hlt⟩;obtain ⟨g,o,rfl,hg,d0⟩:=HV.out.cell_of k p hp;by_cases hlt2:k<y.length
   ·obtain ⟨q,hq⟩:∃ z,y[k]? = some z:=⟨_,List.getElem?_eq_getElem hlt2⟩;obtain ⟨g2,o2,rfl,hg2,d1⟩:=HU.out.cell_of k q hq;have HS:Hid (R=if p<q then -1 else if q<p then 1 else zeG (x.drop (k+1)) (y.drop (k+1))):=by
     show _=_;rw[<- HA.out,HAT.out k hlt hlt2];obtain ⟨_,rfl⟩:=List.getElem?_eq_some_iff.1 hp;obtain ⟨_,rfl⟩:=List.getElem?_eq_some_iff.1 hq;rfl
    have HC:=Hd (fun w=>Tryz.cmp_Compare_int p q w);unfold Lib.compareInt at HC;clear hp hq;by_cases h1:p<q
    ·rw[if_pos h1] at HS HC;go_wp2_with fail;refine (HC.out _).mono ?_;rintro e w' ⟨rfl,rfl⟩;go_wp2_with fail;go_ret;exact ⟨zaG HS.out.symm,rfl⟩
    rw[if_neg h1] at HS HC;by_cases h2:q<p
    ·rw[if_pos h2] at HS HC;go_wp2_with fail;refine (HC.out _).mono ?_;rintro e w' ⟨rfl,rfl⟩;go_wp2_with fail;go_ret;exact ⟨zaG HS.out.symm,rfl⟩
    rw[if_neg h2] at HS;rw[if_neg (show ¬ p > q from h2)] at HC;go_wp2_with fail;refine (HC.out _).mono ?_;rintro e w' ⟨rfl,rfl⟩;go_wp2_with fail
    go_round
    case rel=>exact ⟨k+1,by omega,by omega,by go_num,HS.out.symm⟩
    case measure=>simp [intOf];omega
   ·have HS:Hid (R=1):=by
     show _=_;rw[<- HA.out,HEN.out k hk hk2 (fun q=>hlt2 q.2),if_neg (by omega),if_pos (by omega)]
    clear hp;go_wp2_with fail;go_ret;exact ⟨zaG HS.out.symm,rfl⟩
  ·have HS:Hid (R=if x.length<y.length then -1 else 0):=by
    show _=_;rw[<- HA.out,HEN.out k hk hk2 (fun q=>hlt q.1)];by_cases q:x.length<y.length
    ·rw[if_pos q,if_pos q]
    ·rw[if_neg q,if_neg q,if_neg (by omega)]
   by_cases h1:x.length<y.length
   ·rw[if_pos h1] at HS;go_wp2_with fail;go_ret;exact ⟨zaG HS.out.symm,rfl⟩
   ·rw[if_neg h1] at HS;go_wp2_with fail;go_ret;exact ⟨zaG HS.out.symm,rfl⟩
theorem zk5 {c:ColT} (hs:SmallC c) (s:Bs):(zdT c s).length<=1000 * s.length:=by
 have h1:∀ x,(zeF c x).length<=1000:=fun x=>by
  unfold zeF
  split
  ·simp
  ·split
   ·rename_i v hv;have:=ztJ hs hv;simpa using this
   ·simp
 have h2:∀ xs:List Int,(xs.flatMap (zeF c)).length<=1000 * xs.length:=by
  intro xs
  induction xs with
  | nil=>simp
  | cons x xs ih =>
   have:=h1 x;rw[List.flatMap_cons,List.length_append,List.length_cons];omega
 have h3:=h2 (zcR s);have h4:=zd8 s;unfold zdT;omega
theorem zCs (c:ColT) (a b:Bs):zgV c a b=if zeG (zdT c a) (zdT c b)≠0 then zeG (zdT c a) (zdT c b) else Lib.compareBytes a b:=by
 rw[zpK];rfl
theorem zmH (vR vO:Value) (c:ColT) (a b:Bs) (w:World) (hv:Col w vR vO c) (hs:SmallC c) (ha:a.length<=100000) (hb:b.length<=100000) :
  Calls Tryz.prog 95 #[zmZ vR vO c.ignore,.string (bs a),.string (bs b)] w fun e w'=>e=.returned (.int .i64 (zgV c a b))/\Kept w w':=by
 have HV:=Hd hv;have HT:=Hd (fun w h=>zwN vR vO c w h hs);have HKA:=Hd (fun v w h=>zAb v c a w h hs ha);have HKB:=Hd (fun v w h=>zAb v c b w h hs hb);have hla:=zk5 hs a;have hlb:=zk5 hs b;have HE:=Hd (zCs c a b);have HEQ:=Hd (fun h:a=b=>(show zgV c a b=0 from (zzY c a b).2 h));have HSC:=Hd (fun w=>Tryz.strings_Compare (bs a) (bs b) w);simp only[zfL] at HSC;obtain ⟨aR,cR,rfl,lR⟩:=hv.1.form;obtain ⟨aO,cO,rfl,lO⟩:=hv.2.form;clear hv;have HK0:=Hd (zaA w (.cells #[.slice aR c.ranks.length cR,.slice aO c.order.length cO,.string (bs c.ignore)] 88));generalize zgV c a b=R at *;generalize zdT c a=ka at *;generalize zdT c b=kb at *;generalize Lib.compareBytes a b=S at *;unfold IntsP at HKA HKB;by_cases hab:a=b
 ·have HR:=Hd (HEQ.out hab);subst hab;go_enter Tryz.func95,Tryz.ntmps95;go_wp2_with fail;go_ret;exact ⟨zaG HR.out.symm,HK0.out⟩
 have hab':(a == b)=false:=(by simpa using hab);go_enter Tryz.func95,Tryz.ntmps95;go_wp2_with fail;refine (HT.out _ (HV.out.kept HK0.out)).mono ?_;rintro e w1 ⟨v1,rfl,ht1,hk1⟩;have HT1:=Hd ht1;have HK1:=Hd (HK0.out.trans hk1);obtain ⟨m1,m2,m3,es,rfl,_,_,_,_⟩:=ht1;clear hk1;have HB1:=Hd (Blk.new w1 196 #[.map (some m1),.map (some m2),.map (some m3),.int .i64 c.order.length]);have HK2:=Hd (HK1.out.trans (zaA w1 (.cells #[.map (some m1),.map (some m2),.map (some m3),.int .i64 c.order.length] 196)));have HT2:=Hd (HT1.out.kept (zaA w1 (.cells #[.map (some m1),.map (some m2),.map (some m3),.int .i64 c.order.length] 196)));go_wp2_with fail;generalize w1.alloc (.cells #[.map (some m1),.map (some m2),.map (some m3),.int .i64 c.order.length] 196)=w2 at *;generalize w1.heap.size=B at *;have t0:w2.cell? ⟨B,0,none⟩=some (.map (some m1)):=HB1.out.cell 0 _ rfl;have t1:w2.cell? ⟨B,1,none⟩=some (.map (some m2)):=HB1.out.cell 1 _ rfl;have t2:w2.cell? ⟨B,2,none⟩=some (.map (some m3)):=HB1.out.cell 2 _ rfl;have t3:w2.cell? ⟨B,3,none⟩=some (.int .i64 c.order.length):=HB1.out.cell 3 _ rfl;have zt:=HB1.out.lt;have HCC:Hid (∀ w',Kept w2 w'->(w'.cell? ⟨B,0,none⟩=some (.map (some m1))/\w'.cell? ⟨B,1,none⟩=some (.map (some m2))/\w'.cell? ⟨B,2,none⟩=some (.map (some m3))/\w'.cell? ⟨B,3,none⟩=some (.int .i64 c.order.length))/\B<w'.heap.size/\Kept w2 w'):=fun w' h =>
  ⟨⟨(h.cell (p:=⟨B,0,none⟩) zt).trans t0,(h.cell (p:=⟨B,1,none⟩) zt).trans t1,(h.cell (p:=⟨B,2,none⟩) zt).trans t2,(h.cell (p:=⟨B,3,none⟩) zt).trans t3⟩,Nat.lt_of_lt_of_le zt h.size,h⟩
 have hkd:Kept w2 w2.drew:=zaB w2 1;have HCMP:=Hd (fun v u w (h1:Ints w v ka) (h2:Ints w u kb)=>zAf v u ka kb w h1 h2 (by omega) (by omega))
 go_region_held3 (fun w'=>(w'.cell? ⟨B,0,none⟩=some (.map (some m1))/\w'.cell? ⟨B,1,none⟩=some (.map (some m2))/\w'.cell? ⟨B,2,none⟩=some (.map (some m3))/\w'.cell? ⟨B,3,none⟩=some (.int .i64 c.order.length))/\B<w'.heap.size/\Kept w2 w')
  ((refine HCC.out _ ?_;assumption))
  (first
   | (go_at_call 145;refine (HCMP.out _ _ _ HIA2.out HIB2.out).mono ?_;rintro e w5 ⟨rfl,rfl⟩)
   | (go_at_call_of 146 (Value.string (bs b));refine (HKB.out _ _ (HT2.out.kept kA)).mono ?_;rintro e w4 ⟨vB,rfl,hiB,hk4⟩;have kB:Kept w2 w4:=kA.trans hk4;have HIA2:=Hd (HIA.out.kept hk4);have HIB2:=Hd hiB;obtain ⟨aB,cB,rfl,lB⟩:=hiB.form;clear hk4 hiB)
   | (go_at_call_of 146 (Value.string (bs a));refine (HKA.out _ _ (HT2.out.kept hkd)).mono ?_;rintro e w3 ⟨vA,rfl,hiA,hk3⟩;have kA:Kept w2 w3:=hkd.trans hk3;have HIA:=Hd hiA;obtain ⟨aA,cA,rfl,lA⟩:=hiA.form;clear hk3 hiA))
 all_goals
  have HKZ:=Hd (HK2.out.trans kB);clear HCC kA kB HIA2 HIB2;generalize zeG ka kb=D at *;by_cases hD:D=0
  ·subst hD;rw[if_neg (by simp)] at HE;go_wp2_with fail;refine (HSC.out _).mono ?_;rintro e w6 ⟨rfl,rfl⟩;go_wp2_with fail;go_ret;exact ⟨zaG HE.out.symm,HKZ.out⟩
  ·rw[if_pos hD] at HE;have hD':(D == 0)=false:=(by simpa using hD);go_wp2_with fail;go_ret;exact ⟨zaG HE.out.symm,HKZ.out⟩
end Go.Proofs.YtmcoomlkbgiboaaGreatDoor
