/- tablesOf of collate. Conditions: lengths. -/
import Derived.Test.YtmcoomlkbgiboaaGreatDoorK10
import Derived.Test.YtmcoomlkbgiboaaGreatDoorK11
import Derived.Test.YtmcoomlkbgiboaaGreatDoorK20
import Derived.Test.YtmcoomlkbgiboaaGreatDoorK08
import Derived.Test.YtmcoomlkbgiboaaGreatDoorK19
import Derived.Deep.RegionHeld3
import Derived.BigQuiet
import Derived.Lib.Bytealg

set_option linter.all false
namespace Go.Proofs.YtmcoomlkbgiboaaGreatDoor
open Go.RowKit

def IntsQ (xs:List Int) (w:World) (e:Ending) (w':World):Prop:=∃ v,e=.returned v∧Ints w' v xs∧(∀ g,v.ownBlock=some g→w.heap.size≤g)∧Kept w w'
set_option maxRecDepth 100000 in
set_option maxHeartbeats 1600000 in
theorem letters_own (l:Bs) (w:World) (hl:l.length≤1100000):Calls Tryz.prog 192 #[.string (bs l)] w (IntsQ (ptsL l) w):=by
 obtain ⟨i0,hi,hz0,hz1,hz2⟩:=info_parts Tryz.infoInt
 have H0:Hid (ptsL l=[] ++ ptsF l 0):=by show _=_; rw [ptsF_zero]; rfl
 unfold IntsQ
 go_enter Tryz.func192,Tryz.ntmps192
 go_wp2_with (at_make; refine wpList_make_own _ rfl _ _ 199 rfl w.heap.size 3 i0 (.int .i64 0) 1 Tryz.underlying199 hi hz0 hz1 .i64 .i64 l.length l.length rfl rfl rfl (by rw [hz2]; omega) (by unfold maxLen; omega) (by simp) ?_; intro w1 hown hgrow)
 have HK1:Kept w w1:=Below.grown (Below.refl _ _) hgrow (Nat.le_refl _) (fun j hj=>by cases hj)
 have hs1:w.heap.size≤w1.heap.size:=HK1.size
 go_loopw [3] (fun v wr=>∃ (pos:Nat) (xs:List Int),pos≤l.length∧wr.heap[w1.heap.size]? = some (.stringIter (bs l) pos)∧wr.ownsRow w.heap.size 3 1 v xs.length (intC xs)∧Hid (ptsL l=xs ++ ptsF l pos)∧xs.length≤pos∧Kept w wr) (fun _ wr=>l.length - wr.iterPos w1.heap.size)
 case atStart=>exact ⟨0,[],Nat.zero_le _,World.iter_heap _ _ _,own_kept hown (kept_alloc _ _),H0,Nat.le_refl _,HK1.trans (kept_alloc _ _)⟩
 case round =>
  clear hown hgrow
  obtain ⟨pos,xs,hp,hit,hown,HA,hxl,hk⟩:=hrel
  have hip:wr.iterPos w1.heap.size=pos:=by simp [World.iterPos,hit]
  have hsz:w1.heap.size<wr.heap.size:=by
   rcases Nat.lt_or_ge w1.heap.size wr.heap.size with q | q
   ·exact q
   ·rw [Array.getElem?_eq_none q] at hit; cases hit
  by_cases hlt:pos<l.length
  ·have nx:=fun ty=>run_next_k (P:=Tryz.prog) wr w1.heap.size (bs l) pos ty hit hlt
   have hb:=dec_bounds (bs l) pos hlt
   have HP:=Lib.hid (ptsF_in l pos hlt)
   have hitW:(wr.iterAt w1.heap.size (bs l) (pos+(dec (bs l) pos).2.toNat)).heap[w1.heap.size]? = some (.stringIter (bs l) (pos+(dec (bs l) pos).2.toNat)):=Lib.iterAt_heap wr w1.heap.size (bs l) pos _ hit
   have hkW:Kept w (wr.iterAt w1.heap.size (bs l) (pos+(dec (bs l) pos).2.toNat)):=Lib.below_iterAt hk hs1 (bs l) _
   have hoW:=own_iterAtC hown hit (bs l) (pos+(dec (bs l) pos).2.toNat)
   have hne:=own_iter_ne hown hit
   have hzW:(wr.iterAt w1.heap.size (bs l) (pos+(dec (bs l) pos).2.toNat)).heap.size=wr.heap.size:=Lib.iterAt_size ..
   obtain ⟨c,n,hd⟩:∃ c n,dec (bs l) pos=(c,n):=⟨(dec (bs l) pos).1,(dec (bs l) pos).2,rfl⟩
   rw [hd] at nx hb HP hitW hkW hoW hzW
   simp only at nx hb HP hitW hkW hoW hzW
   obtain ⟨b1,b2,b3,b4,b5⟩:=hb
   simp only [bs_size] at b5
   obtain ⟨W,HW⟩:∃ W,Hid (wr.iterAt w1.heap.size (bs l) (pos+n.toNat)=W):=⟨_,rfl⟩
   simp only [HW.out] at nx hitW hkW hoW hzW
   have HITW:=Lib.hid hitW
   have HKW:=Lib.hid hkW
   have HNE:=Lib.hid hne
   have HIP:=Lib.hid hip
   have hszW:w1.heap.size<W.heap.size:=by omega
   have hwW:w.heap.size≤W.heap.size:=by omega
   clear hitW hkW hd hip hit hk hown hne hzW
   go_wp2_with (at_builtin; refine wpList_append_own _ rfl _ _ 199 rfl w.heap.size 3 i0 (.int .i64 0) 1 8 Tryz.underlying199 hi hz0 hz1 hz2 rfl (by decide) _ _ _ rfl (hoW.alloc _) ⟨W.heap.size,0,none⟩ 1 1 [.int .i64 c] rfl rfl ?_ ?_ ?_ ?_ ?_ ?_)
   ·exact new_cells _ #[.int .i64 c] _ _ (by simp)
   ·intro u hu; simp at hu; subst hu; rfl
   ·unfold maxLen; omega
   ·omega
   ·simp; omega
   intro v' w2 hown2 hgrow2 _
   have HB2:=Lib.hid ((HKW.out.trans (kept_alloc W _)).trans' (grown_below (hoW.alloc _) hgrow2 (by simp; omega)))
   have hit2:w2.heap[w1.heap.size]? = some (.stringIter (bs l) (pos+n.toNat)):=by
    rw [hgrow2.block w1.heap.size (by simp; omega) HNE.out,Below.heap_alloc _ _ _ hszW]
    exact HITW.out
   have HIT2:=Lib.hid hit2
   rw [← intC_snoc] at hown2
   have HO:=Lib.hid hown2
   clear hown2 hgrow2 hoW hit2
   go_wp2_with fail
   go_roundw
   case rel=>exact ⟨pos+n.toNat,xs ++ [c],by omega,HIT2.out,by simpa using HO.out,by show _=_; rw [HA.out,HP.out]; simp,by simp; omega,HB2.out⟩
   case measure=>rw [HIP.out]; have:=HIT2.out; simp [World.iterPos,this]; omega
  ·have nx:=fun ty=>run_next_k_end (P:=Tryz.prog) wr w1.heap.size (bs l) pos ty hit hlt
   have HI:=Lib.hid (Ints.own hown)
   have HBS:=Lib.hid (fun g h=>(hown.lt g h).1)
   have HL:Hid (ptsL l=xs):=by
    show _=_
    rw [HA.out,ptsF_out l pos hlt,List.append_nil]
   have HK:=Lib.hid hk
   clear hown hk
   go_wp2_with fail
   go_ret
   exact ⟨_,rfl,by rw [HL.out]; exact HI.out,HBS.out,HK.out⟩

theorem Tryz.zeroInt (w:World):(zeroValue 3).run Tryz.prog w=.ok (.int .i64 0) w:=by kernel_rfl
theorem Tryz.zeroInts (w:World):(zeroValue 199).run Tryz.prog w=.ok (.slice none 0 0) w:=by kernel_rfl
theorem ValsR.onl {w w':World} {es es':List (Int × Value)} {c:ColT} {m:Nat} (h:ValsR w es c) (hm:MapV w m es') (k:Only (fun i=>i=m) w w'):ValsR w' es c:=fun x=>by
 have:=h x
 cases hv:valI c x with
 | none=>rw [hv] at this; exact this
 | some ys =>
  rw [hv] at this
  obtain ⟨v,h1,h2⟩:=this
  exact ⟨v,h1,h2.map hm k⟩
theorem vals_same {w:World} {es:List (Int × Value)} {c c':ColT} (h:ValsR w es c) (he:∀ x,valI c' x=valI c x):ValsR w es c':=fun x=>by rw [he x]; exact h x
theorem vals_skip {w:World} {es:List (Int × Value)} {rs:List Pr} {o:List Bs} {i:Bs} (h:ValsR w es ⟨rs,o,i⟩) (p:Pr) (hp:(ptsL p.1).length≠1):ValsR w es ⟨rs ++ [p],o,i⟩ :=
 vals_same h fun x=>by
  rw [valI_snoc]
  cases valI ⟨rs,o,i⟩ x with
  | some ys=>rfl
  | none =>
   simp only
   rw [if_neg (fun q=>hp (by rw [q]; rfl))]
theorem vals_old {w:World} {es:List (Int × Value)} {rs:List Pr} {o:List Bs} {i:Bs} (h:ValsR w es ⟨rs,o,i⟩) (p:Pr) (x:Int) (u:Value) (hp:ptsL p.1=[x]) (hx:getV es x=some u):ValsR w es ⟨rs ++ [p],o,i⟩ :=
 vals_same h fun y=>by
  rw [valI_snoc]
  cases hv:valI ⟨rs,o,i⟩ y with
  | some ys=>rfl
  | none =>
   simp only
   rw [if_neg]
   intro q
   rw [hp] at q
   obtain rfl:x=y:=by simpa using q
   have:=h x
   rw [hv] at this
   rw [hx] at this; cases this
theorem vals_new {w:World} {es:List (Int × Value)} {rs:List Pr} {o:List Bs} {i:Bs} (h:ValsR w es ⟨rs,o,i⟩) (p:Pr) (x:Int) (v:Value) (hp:ptsL p.1=[x]) (hx:getV es x=none) (hv:Ints w v (ptsL p.2)):ValsR w (es ++ [(x,v)]) ⟨rs ++ [p],o,i⟩:=fun y=>by
 have hy:=h y
 rw [valI_snoc,getV_snoc]
 cases hw:valI ⟨rs,o,i⟩ y with
 | some ys =>
  rw [hw] at hy
  obtain ⟨u,h1,h2⟩:=hy
  exact ⟨u,by rw [h1],h2⟩
 | none =>
  rw [hw] at hy
  simp only at hy ⊢
  rw [hy,hp]
  by_cases q:x=y
  ·subst q; rw [if_pos rfl,if_pos rfl]; exact ⟨v,rfl,hv⟩
  ·rw [if_neg (by simpa using q),if_neg q]
abbrev zTab:Array Value:=#[.map none,.map none,.map none,.int .i64 0]
/-- The values lie in blocks from B on. -/
def ValsF (es:List (Int × Value)) (B:Nat):Prop:=∀ x v,getV es x=some v→∀ g,v.ownBlock=some g→B≤g
theorem ValsF.nil (B:Nat):ValsF [] B:=fun x v h=>by
 have e:getV [] x=none:=rfl
 rw [e] at h; cases h
theorem ValsF.push {es:List (Int × Value)} {B:Nat} (h:ValsF es B) (x:Int) (v:Value) (hv:∀ g,v.ownBlock=some g→B≤g):ValsF (es ++ [(x,v)]) B:=fun y u hu=>by
 rw [getV_snoc] at hu
 cases hy:getV es y with
 | some u'=>rw [hy] at hu; cases hu; exact h y u hy
 | none =>
  rw [hy] at hu
  simp only at hu
  split at hu
  ·cases hu; exact hv
  ·cases hu
theorem ValsR.blk {w w':World} {es:List (Int × Value)} {c:ColT} {b B:Nat} (h:ValsR w es c) (hf:ValsF es B) (hb:b<B) (k:Only (fun i=>i=b) w w'):ValsR w' es c:=fun x=>by
 have:=h x
 cases hv:valI c x with
 | none=>rw [hv] at this; exact this
 | some ys =>
  rw [hv] at this
  obtain ⟨v,h1,h2⟩:=this
  have hg:=hf x v h1
  refine ⟨v,h1,h2.only k (fun g e=>.inr (fun o n cc q=>?_))⟩
  have:=hg g (by rw [q]; rfl)
  omega
/-- The tables under construction: the boxed collation, the result's block, three maps, the table's block. -/
structure TS (w:World) (B:Nat) (vR vO:Value) (ig:Bs) (n:Nat) (e1 e2 e3:List (Int × Value)):Prop where
 box:Blk w B 88 #[vR,vO,.string (bs ig)]
 res:Blk w (B+1) 196 zTab
 m1:MapV w (B+1+1) e1
 m2:MapV w (B+1+1+1) e2
 m3:MapV w (B+1+1+1+1) e3
 tab:Blk w (B+1+1+1+1+1) 196 #[.map (some (B+1+1)),.map (some (B+1+1+1)),.map (some (B+1+1+1+1)),.int .i64 n]
theorem TS.kept {w w':World} {B:Nat} {vR vO:Value} {ig:Bs} {n:Nat} {e1 e2 e3:List (Int × Value)} (h:TS w B vR vO ig n e1 e2 e3) (k:Kept w w'):TS w' B vR vO ig n e1 e2 e3 :=
 ⟨h.box.kept k,h.res.kept k,h.m1.kept k,h.m2.kept k,h.m3.kept k,h.tab.kept k⟩
theorem TS.put1 {w:World} {B:Nat} {vR vO:Value} {ig:Bs} {n:Nat} {e1 e2 e3:List (Int × Value)} (h:TS w B vR vO ig n e1 e2 e3) (e:List (Int × Value)):TS (putV w (B+1+1) e) B vR vO ig n e e2 e3 :=
 have o:=putV_only w (B+1+1) e
 ⟨h.box.onl o (by omega),h.res.onl o (by omega),putV_map w _ e h.m1.lt,h.m2.only o (by omega),h.m3.only o (by omega),h.tab.onl o (by omega)⟩
theorem TS.put2 {w:World} {B:Nat} {vR vO:Value} {ig:Bs} {n:Nat} {e1 e2 e3:List (Int × Value)} (h:TS w B vR vO ig n e1 e2 e3) (e:List (Int × Value)):TS (putV w (B+1+1+1) e) B vR vO ig n e1 e e3 :=
 have o:=putV_only w (B+1+1+1) e
 ⟨h.box.onl o (by omega),h.res.onl o (by omega),h.m1.only o (by omega),putV_map w _ e h.m2.lt,h.m3.only o (by omega),h.tab.onl o (by omega)⟩
theorem TS.put3 {w:World} {B:Nat} {vR vO:Value} {ig:Bs} {n:Nat} {e1 e2 e3:List (Int × Value)} (h:TS w B vR vO ig n e1 e2 e3) (e:List (Int × Value)):TS (putV w (B+1+1+1+1) e) B vR vO ig n e1 e2 e :=
 have o:=putV_only w (B+1+1+1+1) e
 ⟨h.box.onl o (by omega),h.res.onl o (by omega),h.m1.only o (by omega),h.m2.only o (by omega),putV_map w _ e h.m3.lt,h.tab.onl o (by omega)⟩
/-- The tables of c, as a value. -/
def TabR (w:World) (v:Value) (c:ColT):Prop:=∃ m1 m2 m3 es,v=.agg #[.map (some m1),.map (some m2),.map (some m3),.int .i64 c.order.length]∧MapV w m1 (setV (ptsL c.ignore))∧MapV w m2 es∧ValsR w es c∧MapV w m3 (grpV c)
theorem TabR.kept {w w':World} {v:Value} {c:ColT} (h:TabR w v c) (k:Kept w w'):TabR w' v c:=by
 obtain ⟨m1,m2,m3,es,hv,h1,h2,h3,h4⟩:=h
 exact ⟨m1,m2,m3,es,hv,h1.kept k,h2.kept k,h3.kept k,h4.kept k⟩
theorem ts_start (w:World) (vR vO:Value) (ig:Bs) (n:Nat) :
  TS ((((((w.alloc (.cells #[vR,vO,.string (bs ig)] 88)).alloc (.cells zTab 196)).alloc (.map #[] 0)).alloc (.map #[] 0)).alloc (.map #[] 0)).alloc (.cells #[.map (some (w.heap.size+1+1)),.map (some (w.heap.size+1+1+1)),.map (some (w.heap.size+1+1+1+1)),.int .i64 n] 196)) w.heap.size vR vO ig n [] [] []:=by
 have k:∀ (w:World) (o:Obj),Kept w (w.alloc o):=kept_alloc
 have s:∀ (w:World) (o:Obj),(w.alloc o).heap.size=w.heap.size+1:=fun w o=>by simp
 refine ⟨?_,?_,?_,?_,?_,?_⟩
 ·exact (((((Blk.new w _ _).alloc _).alloc _).alloc _).alloc _).alloc _
 ·have h:=Blk.new (w.alloc (.cells #[vR,vO,.string (bs ig)] 88)) 196 zTab
  rw [s] at h
  exact (((h.alloc _).alloc _).alloc _).alloc _
 ·have h:=MapV.made ((w.alloc (.cells #[vR,vO,.string (bs ig)] 88)).alloc (.cells zTab 196))
  rw [s,s] at h
  exact ((h.kept (k _ _)).kept (k _ _)).kept (k _ _)
 ·have h:=MapV.made (((w.alloc (.cells #[vR,vO,.string (bs ig)] 88)).alloc (.cells zTab 196)).alloc (.map #[] 0))
  rw [s,s,s] at h
  exact (h.kept (k _ _)).kept (k _ _)
 ·have h:=MapV.made ((((w.alloc (.cells #[vR,vO,.string (bs ig)] 88)).alloc (.cells zTab 196)).alloc (.map #[] 0)).alloc (.map #[] 0))
  rw [s,s,s,s] at h
  exact h.kept (k _ _)
 ·have h:=Blk.new (((((w.alloc (.cells #[vR,vO,.string (bs ig)] 88)).alloc (.cells zTab 196)).alloc (.map #[] 0)).alloc (.map #[] 0)).alloc (.map #[] 0)) 196 #[.map (some (w.heap.size+1+1)),.map (some (w.heap.size+1+1+1)),.map (some (w.heap.size+1+1+1+1)),.int .i64 n]
  rw [s,s,s,s,s] at h
  exact h
theorem ts_kept (w:World) (o1 o2 o3 o4 o5 o6:Obj):Kept w ((((((w.alloc o1).alloc o2).alloc o3).alloc o4).alloc o5).alloc o6) :=
 (((((kept_alloc _ _).trans (kept_alloc _ _)).trans (kept_alloc _ _)).trans (kept_alloc _ _)).trans (kept_alloc _ _)).trans (kept_alloc _ _)
set_option maxRecDepth 100000 in
set_option maxHeartbeats 6400000 in
theorem tables_any (vR vO:Value) (c:ColT) (w:World) (hv:Col w vR vO c) (hs:SmallC c) :
  Calls Tryz.prog 144 #[colV vR vO c.ignore] w fun e w'=>∃ v,e=.returned v∧TabR w' v c∧Kept w w':=by
 obtain ⟨s1,s2,s3,s4,s5⟩:=hs
 have HV:=Lib.hid hv
 obtain ⟨aR,cR,rfl,lR⟩:=hv.1.form
 obtain ⟨aO,cO,rfl,lO⟩:=hv.2.form
 have HS4:=Lib.hid s4
 have HS5:=Lib.hid s5
 clear hv s4 s5
 have mk1:=fun w=>run_makeMap (P:=Tryz.prog) 116 w
 have mk2:=fun w=>run_makeMap (P:=Tryz.prog) 193 w
 have mk3:=fun w=>run_makeMap (P:=Tryz.prog) 194 w
 have HTS:=Lib.hid (ts_start w (.slice aR c.ranks.length cR) (.slice aO c.order.length cO) c.ignore c.order.length)
 have HKS:=Lib.hid (ts_kept w (.cells #[.slice aR c.ranks.length cR,.slice aO c.order.length cO,.string (bs c.ignore)] 88) (.cells zTab 196) (.map #[] 0) (.map #[] 0) (.map #[] 0) (.cells #[.map (some (w.heap.size+1+1)),.map (some (w.heap.size+1+1+1)),.map (some (w.heap.size+1+1+1+1)),.int .i64 c.order.length] 196))
 have HL0:=Lib.hid (fun w=>letters_any c.ignore w (by omega))
 unfold IntsP at HL0
 have hig:=ptsL_len c.ignore
 go_enter Tryz.func144,Tryz.ntmps144
 go_wp2_with fail
 generalize (((((w.alloc (.cells #[.slice aR c.ranks.length cR,.slice aO c.order.length cO,.string (bs c.ignore)] 88)).alloc (.cells zTab 196)).alloc (.map #[] 0)).alloc (.map #[] 0)).alloc (.map #[] 0)).alloc (.cells #[.map (some (w.heap.size+1+1)),.map (some (w.heap.size+1+1+1)),.map (some (w.heap.size+1+1+1+1)),.int .i64 c.order.length] 196)=w0 at *
 refine (HL0.out _).mono ?_
 rintro e w1 ⟨v1,rfl,hv1,hk1⟩
 have HV1:=Lib.hid hv1
 have HT1:=Lib.hid (HTS.out.kept hk1)
 have HK1:=Lib.hid (HKS.out.trans hk1)
 obtain ⟨a1,c1,rfl,hc1⟩:=hv1.form
 obtain ⟨xs,HXE⟩:∃ xs,Hid (ptsL c.ignore=xs):=⟨_,rfl⟩
 rw [HXE.out] at HV1 hc1 hig ⊢
 have HXS:Hid (setV xs=setV (xs.take xs.length)):=by
  show _=_; rw [List.take_of_length_le (Nat.le_refl _)]
 clear hv1 hk1 HTS HKS HL0
 go_wp2_with fail
 go_loopw [28] (fun i wr=>∃ k:Nat,k≤xs.length∧i=.int .i64 k∧Hid (TS wr w.heap.size (.slice aR c.ranks.length cR) (.slice aO c.order.length cO) c.ignore c.order.length (setV (xs.take k)) [] [])∧Hid (Only (fun i=>i=w.heap.size+1+1) w1 wr)) (fun i _=>xs.length - (intOf i).toNat)
 case atStart=>exact ⟨0,Nat.zero_le _,rfl,HT1.out,Only.of_kept (Kept.refl _)⟩
 case round =>
  obtain ⟨k,hk,rfl,HT,HO⟩:=hrel
  have HKW:Hid (Kept w wr):=only_kept HK1.out HO.out (by omega)
  by_cases hlt:k<xs.length
  ·obtain ⟨y,hx⟩:∃ y,xs[k]? = some y:=⟨_,List.getElem?_eq_getElem hlt⟩
   obtain ⟨g,o,rfl,hg,d0⟩:=(HV1.out.map HT1.out.m1 HO.out).cell_of k y hx
   have t0:wr.cell? ⟨w.heap.size+1+1+1+1+1,0,none⟩=some (.map (some (w.heap.size+1+1))):=HT.out.tab.cell 0 _ rfl
   have zt:=HT.out.tab.lt
   have HNX:Hid (setV (xs.take (k+1))=if (getV (setV (xs.take k)) y).isSome=true then setV (xs.take k) else setV (xs.take k) ++ [(y,.bool true)]):=by
    show _=_
    obtain ⟨hk',rfl⟩:=List.getElem?_eq_some_iff.1 hx
    rw [List.take_succ_eq_append_getElem hk',setV_snoc]
   have up:(Instr.mapUpdate 116 (.map (some (w.heap.size+1+1))) (.int .i64 y) (.bool true)).run Tryz.prog wr=.ok () (putV wr (w.heap.size+1+1) (setV (xs.take (k+1)))):=by
    cases hgv:getV (setV (xs.take k)) y with
    | none =>
     rw [HNX.out,hgv]
     exact insV (P:=Tryz.prog) Tryz.underlying116 Tryz.underlying3 wr _ _ y (.bool true) HT.out.m1 hgv
    | some u =>
     have hu:u=.bool true:=by
      have:=setV_is (xs.take k) y
      rw [hgv] at this
      split at this
      ·exact Option.some.inj this
      ·cases this
     subst hu
     rw [HNX.out,hgv]
     exact againV (P:=Tryz.prog) Tryz.underlying116 Tryz.underlying3 wr _ _ y (.bool true) HT.out.m1 hgv
   have HT2:=Lib.hid (HT.out.put1 (setV (xs.take (k+1))))
   have HO2:=Lib.hid (HO.out.trans (putV_only wr (w.heap.size+1+1) (setV (xs.take (k+1)))))
   generalize putV wr (w.heap.size+1+1) (setV (xs.take (k+1)))=w5 at *
   clear hx
   go_wp2_with fail
   go_roundw
   case rel=>exact ⟨k+1,by omega,by go_num,HT2.out,HO2.out⟩
   case measure=>simp [intOf]; omega
  ·obtain rfl:k=xs.length:=by omega
   rw [← HXS.out] at HT
   have b0:wr.cell? ⟨w.heap.size,0,none⟩=some (.slice aR c.ranks.length cR):=HT.out.box.cell 0 _ rfl
   have z0:=HT.out.box.lt
   obtain ⟨E1,HE1⟩:∃ E1,Hid (setV xs=E1):=⟨_,rfl⟩
   rw [HE1.out] at HT
   clear HXS HO HV1 HT1 HK1 hlt
   go_wp2_with fail
   clear b0 z0
   go_loopw [39] (fun i wr=>∃ (k:Nat) (es:List (Int × Value)),k≤c.ranks.length∧i=.int .i64 k∧Hid (TS wr w.heap.size (.slice aR c.ranks.length cR) (.slice aO c.order.length cO) c.ignore c.order.length E1 es [])∧Hid (ValsR wr es ⟨c.ranks.take k,c.order,c.ignore⟩)∧Hid (ValsF es (w.heap.size+1+1))∧Hid (Kept w wr)) (fun i _=>c.ranks.length - (intOf i).toNat)
   case atStart=>exact ⟨0,[],Nat.zero_le _,rfl,HT.out,ValsR.nil _ _ _,ValsF.nil _,HKW.out⟩
   case round =>
    clear HT HKW
    obtain ⟨j,es,hj,rfl,HT,HVR,HVF,HKW⟩:=hrel
    have hwr2:w.heap.size+1+1≤wr.heap.size:=by have:=HT.out.tab.lt; omega
    by_cases hlt2:j<c.ranks.length
    ·obtain ⟨p,hx⟩:∃ x,c.ranks[j]? = some x:=⟨_,List.getElem?_eq_getElem hlt2⟩
     obtain ⟨hp1,hp2⟩:=HS5.out p (List.mem_of_getElem? hx)
     obtain ⟨g,o,rfl,hg,d0,d1,_,_⟩:=(HV.out.1.kept HKW.out).cell_of j p hx
     have HTK:Hid (c.ranks.take (j+1)=c.ranks.take j ++ [p]):=by
      obtain ⟨hk',rfl⟩:=List.getElem?_eq_some_iff.1 hx
      exact List.take_succ_eq_append_getElem hk'
     obtain ⟨x,y⟩:=p
     simp only at hp1 hp2 d0 d1
     have HLX:=Lib.hid (fun w=>letters_any x w (by omega))
     have HLY:=Lib.hid (fun w=>letters_own y w (by omega))
     unfold IntsP at HLX
     unfold IntsQ at HLY
     have hxl:=ptsL_len x
     have HBX:=Lib.hid (Blk.new wr 62 #[.string (bs x),.string (bs y)])
     have HKX:=Lib.hid (kept_alloc wr (.cells #[.string (bs x),.string (bs y)] 62))
     have HSK:=Lib.hid (fun w' (h:ValsR w' es ⟨c.ranks.take j,c.order,c.ignore⟩) hp=>vals_skip h (x,y) hp)
     have HOLD:=Lib.hid (fun w' (h:ValsR w' es ⟨c.ranks.take j,c.order,c.ignore⟩) z u hp hu=>vals_old h (x,y) z u hp hu)
     have HNEW:=Lib.hid (fun w' (h:ValsR w' es ⟨c.ranks.take j,c.order,c.ignore⟩) z u hp hu hv=>vals_new h (x,y) z u hp hu hv)
     rw [← HTK.out] at HSK HOLD HNEW
     simp only at HSK HOLD HNEW
     clear hx HTK
     generalize ptsL x=px at *
     generalize ptsL y=py at *
     go_wp2_with fail
     refine (HLX.out _).mono ?_
     rintro e w3 ⟨v3,rfl,hi3,hk3⟩
     have HKA:=Lib.hid (HKX.out.trans hk3)
     have HI3:=Lib.hid hi3
     have HT3:=Lib.hid (HT.out.kept HKA.out)
     have HV3:=Lib.hid (HVR.out.kept HKA.out)
     have HK3:=Lib.hid (HKW.out.trans HKA.out)
     have HBX3:=Lib.hid (HBX.out.kept hk3)
     obtain ⟨a3,c3,rfl,hc3⟩:=hi3.form
     clear hk3 hi3 d0 d1 hg
     by_cases hpx:px.length=1
     case neg =>
      have hpx':((px.length:Int) == 1)=false:=by rw [beq_eq_false_iff_ne]; omega
      have HVN:=Lib.hid (HSK.out w3 HV3.out hpx)
      clear HSK HOLD HNEW
      go_wp2_with fail
      go_roundw
      case rel=>exact ⟨j+1,es,by omega,by go_num,HT3.out,HVN.out,HVF.out,HK3.out⟩
      case measure=>simp [intOf]; omega
     obtain ⟨z,rfl⟩:∃ z,px=[z]:=List.length_eq_one_iff.1 hpx
     obtain ⟨g3,o3,rfl,hg3,q0⟩:=HI3.out.cell_of 0 z rfl
     rw [Nat.add_zero] at q0
     have t1:w3.cell? ⟨w.heap.size+1+1+1+1+1,1,none⟩=some (.map (some (w.heap.size+1+1+1))):=HT3.out.tab.cell 1 _ rfl
     have zt:=HT3.out.tab.lt
     have lk:=fun w' (h:MapV w' (w.heap.size+1+1+1) es)=>lookV_ok (P:=Tryz.prog) Tryz.underlying193 Tryz.underlying3 w' (w.heap.size+1+1+1) es z (.slice none 0 0) (Tryz.zeroInts w') h
     simp only [List.length_cons,List.length_nil,Nat.zero_add] at hc3 HI3 ⊢
     cases hgv:getV es z with
     | some u =>
      have HVN:=Lib.hid (HOLD.out w3 HV3.out z u rfl hgv)
      simp only [hgv] at lk
      have lkq:=fun n=>lk (w3.drewN n) (HT3.out.kept (kept_drewN w3 n)).m2
      clear HSK HOLD HNEW lk hgv
      go_wp2_with fail
      go_quiet (fail)
      go_wp2_with fail
      go_roundw
      case rel=>exact ⟨j+1,es,by omega,by go_num,HT3.out.kept (kept_drewN _ _),HVN.out.kept (kept_drewN _ _),HVF.out,HK3.out.trans (kept_drewN _ _)⟩
      case measure=>simp [intOf]; omega
     | none =>
      simp only [hgv] at lk
      have lkq:=fun n=>lk (w3.drewN n) (HT3.out.kept (kept_drewN w3 n)).m2
      have HGV:=Lib.hid hgv
      clear HSK HOLD lk hgv
      go_wp2_with fail
      go_quiet (fail)
      have HT4:=Lib.hid (HT3.out.kept (kept_drewN w3 nq))
      have HV4:=Lib.hid (HV3.out.kept (kept_drewN w3 nq))
      have HK4:=Lib.hid (HK3.out.trans (kept_drewN w3 nq))
      have HBX4:=Lib.hid (HBX3.out.kept (kept_drewN w3 nq))
      have HI4:=Lib.hid (HI3.out.kept (kept_drewN w3 nq))
      clear q0 t1 zt lkq hg3 HT3 HV3 HK3 HBX3 HI3 HKA
      generalize w3.drewN nq=w4 at *
      go_wp2_with fail
      obtain ⟨g4,o4,he4,hg3,q0⟩:=HI4.out.cell_of 0 z rfl
      obtain ⟨rfl,rfl⟩:g4=g3∧o4=o3:=by cases he4; exact ⟨rfl,rfl⟩
      rw [Nat.add_zero] at q0
      have t1:w4.cell? ⟨w.heap.size+1+1+1+1+1,1,none⟩=some (.map (some (w.heap.size+1+1+1))):=HT4.out.tab.cell 1 _ rfl
      have zt:=HT4.out.tab.lt
      have p1:w4.cell? ⟨wr.heap.size,1,none⟩=some (.string (bs y)):=HBX4.out.cell 1 _ rfl
      have zp:=HBX4.out.lt
      have hnp:¬ wr.heap.size=w.heap.size+1+1+1:=HBX4.out.no_map HT4.out.m2
      have hng:¬ g4=w.heap.size+1+1+1:=by
       rintro rfl
       rw [HT4.out.m2.no_cell] at q0
       cases q0
      have HCC:Hid (∀ w',Only (fun i=>i=w.heap.size+1+1+1) w4 w'→(w'.cell? ⟨w.heap.size+1+1+1+1+1,1,none⟩=some (.map (some (w.heap.size+1+1+1)))∧w'.cell? ⟨wr.heap.size,1,none⟩=some (.string (bs y))∧w'.cell? ⟨g4,o4,none⟩=some (.int .i64 z))∧(w.heap.size+1+1+1+1+1<w'.heap.size∧wr.heap.size<w'.heap.size∧g4<w'.heap.size)∧Only (fun i=>i=w.heap.size+1+1+1) w4 w'):=fun w' h =>
       ⟨⟨(h.cell _ 1 zt (by omega)).trans t1,(h.cell _ 1 zp hnp).trans p1,(h.cell g4 o4 hg3 hng).trans q0⟩,⟨Nat.lt_of_lt_of_le zt h.size,Nat.lt_of_lt_of_le zp h.size,Nat.lt_of_lt_of_le hg3 h.size⟩,h⟩
      have HUP:Hid (∀ w' v,Kept w4 w'→(Instr.mapUpdate 193 (.map (some (w.heap.size+1+1+1))) (.int .i64 z) v).run Tryz.prog w'=.ok () (putV w' (w.heap.size+1+1+1) (es ++ [(z,v)]))):=fun w' v h =>
       insV (P:=Tryz.prog) Tryz.underlying193 Tryz.underlying3 w' _ es z v (HT4.out.kept h).m2 HGV.out
      have hkd:Kept w4 w4.drew:=kept_drewN w4 1
      have okd:Only (fun i=>i=w.heap.size+1+1+1) w4 w4.drew:=Only.of_kept hkd
      go_region_held3 (fun w'=>(w'.cell? ⟨w.heap.size+1+1+1+1+1,1,none⟩=some (.map (some (w.heap.size+1+1+1)))∧w'.cell? ⟨wr.heap.size,1,none⟩=some (.string (bs y))∧w'.cell? ⟨g4,o4,none⟩=some (.int .i64 z))∧(w.heap.size+1+1+1+1+1<w'.heap.size∧wr.heap.size<w'.heap.size∧g4<w'.heap.size)∧Only (fun i=>i=w.heap.size+1+1+1) w4 w')
       ((refine HCC.out _ ?_; assumption))
       (first
        | (go_at_call 192; refine (HLY.out _).mono ?_; rintro e w5 ⟨v5,rfl,hi5,hf5,hk5⟩; have k5:Kept w4 w5:=hkd.trans hk5; have HF5:=Lib.hid hf5; have HI5:=Lib.hid hi5; have up5:=HUP.out w5 v5 k5; have o5:Only (fun i=>i=w.heap.size+1+1+1) w4 w5:=Only.of_kept k5; have o6:=o5.trans (putV_only w5 (w.heap.size+1+1+1) (es ++ [(z,v5)])); obtain ⟨a5,c5,rfl,hc5⟩:=hi5.form; clear hk5 hi5 hf5))
      all_goals
       have HF5:∀ g,(Value.slice a5 py.length c5).ownBlock=some g→w.heap.size+1+1≤g:=fun g h=>by
        have:=HF5.out g h
        have h8:w4.heap.size≤g:=this
        have:=HT4.out.tab.lt
        omega
       have HT5:=Lib.hid ((HT4.out.kept k5).put2 (es ++ [(z,Value.slice a5 py.length c5)]))
       have HM5:=Lib.hid (HT4.out.kept k5).m2
       have HO5:=Lib.hid (putV_only w5 (w.heap.size+1+1+1) (es ++ [(z,Value.slice a5 py.length c5)]))
       have HV5:=Lib.hid (HNEW.out _ ((HV4.out.kept k5).onl HM5.out HO5.out) z (Value.slice a5 py.length c5) rfl HGV.out (HI5.out.map HM5.out HO5.out))
       have HK5:=Lib.hid (only_kept (HK4.out.trans k5) HO5.out (by omega))
       clear HUP HCC up5 o5 o6 okd hkd
       generalize putV w5 (w.heap.size+1+1+1) (es ++ [(z,Value.slice a5 py.length c5)])=w6 at *
       go_wp2_with fail
       go_roundw
       case rel=>exact ⟨j+1,es ++ [(z,Value.slice a5 py.length c5)],by omega,by go_num,HT5.out,HV5.out,HVF.out.push z _ HF5,HK5.out⟩
       case measure=>simp [intOf]; omega
    ·obtain rfl:j=c.ranks.length:=by omega
     rw [List.take_of_length_le (Nat.le_refl _)] at HVR
     have HVRC:Hid (ValsR wr es c):=HVR.out
     have b1:wr.cell? ⟨w.heap.size,1,none⟩=some (.slice aO c.order.length cO):=HT.out.box.cell 1 _ rfl
     have z1:=HT.out.box.lt
     have H00:Hid (([]:List (Int × Value))=grpN (c.order.take 0) 0 []):=rfl
     clear HVR hlt2
     go_wp2_with fail
     clear b1 z1
     go_loopw [72] (fun i wr2=>∃ k:Nat,k≤c.order.length∧i=.int .i64 k∧Hid (TS wr2 w.heap.size (.slice aR c.ranks.length cR) (.slice aO c.order.length cO) c.ignore c.order.length E1 es (grpN (c.order.take k) 0 []))∧Hid (ValsR wr2 es c)∧Hid (Kept w wr2)) (fun i _=>c.order.length - (intOf i).toNat)
     case atStart=>exact ⟨0,Nat.zero_le _,rfl,HT.out,HVRC.out,HKW.out⟩
     case round =>
      clear HT HVRC HKW
      obtain ⟨k,hk,rfl,HT,HVR,HKW⟩:=hrel
      by_cases hlt3:k<c.order.length
      ·obtain ⟨s,hx⟩:∃ x,c.order[k]? = some x:=⟨_,List.getElem?_eq_getElem hlt3⟩
       have hsl:=HS4.out s (List.mem_of_getElem? hx)
       obtain ⟨g,o,rfl,hg,d0,_,_⟩:=(HV.out.2.kept HKW.out).cell_of k s hx
       have HGN:Hid (grpN (c.order.take (k+1)) 0 []=grpA k (grpN (c.order.take k) 0 []) (ptsL s)):=by
        show _=_
        obtain ⟨hk',rfl⟩:=List.getElem?_eq_some_iff.1 hx
        rw [List.take_succ_eq_append_getElem hk',grpN_snoc]
        congr 1; simp; omega
       have HLS:=Lib.hid (fun w=>letters_any s w (by omega))
       unfold IntsP at HLS
       have hpl:=ptsL_len s
       clear hx
       generalize ptsL s=ps at *
       generalize grpN (c.order.take k) 0 []=e3 at *
       go_wp2_with fail
       refine (HLS.out _).mono ?_
       rintro e w3 ⟨v3,rfl,hi3,hk3⟩
       have HI3:=Lib.hid hi3
       have HT3:=Lib.hid (HT.out.kept hk3)
       have HV3:=Lib.hid (HVR.out.kept hk3)
       have HK3:=Lib.hid (HKW.out.trans hk3)
       obtain ⟨a3,c3,rfl,hc3⟩:=hi3.form
       clear hk3 hi3 d0 hg HT HVR HKW
       go_wp2_with fail
       go_loopw [80] (fun i wr3=>∃ n:Nat,n≤ps.length∧i=.int .i64 n∧Hid (TS wr3 w.heap.size (.slice aR c.ranks.length cR) (.slice (some ⟨g,o,none⟩) c.order.length cO) c.ignore c.order.length E1 es (grpA k e3 (ps.take n)))∧Hid (Only (fun i=>i=w.heap.size+1+1+1+1) w3 wr3)) (fun i _=>ps.length - (intOf i).toNat)
       case atStart=>exact ⟨0,Nat.zero_le _,rfl,HT3.out,Only.of_kept (Kept.refl _)⟩
       case round =>
        obtain ⟨n,hn,rfl,HT,HO⟩:=hrel
        have HVR:Hid (ValsR wr es c):=HV3.out.onl HT3.out.m3 HO.out
        have HKW:Hid (Kept w wr):=only_kept HK3.out HO.out (by omega)
        by_cases hlt4:n<ps.length
        ·obtain ⟨y,hx⟩:∃ y,ps[n]? = some y:=⟨_,List.getElem?_eq_getElem hlt4⟩
         obtain ⟨g,o,rfl,hg,d0⟩:=(HI3.out.map HT3.out.m3 HO.out).cell_of n y hx
         have t2:wr.cell? ⟨w.heap.size+1+1+1+1+1,2,none⟩=some (.map (some (w.heap.size+1+1+1+1))):=HT.out.tab.cell 2 _ rfl
         have zt:=HT.out.tab.lt
         have HNX:Hid (grpA k e3 (ps.take (n+1))=if (getV (grpA k e3 (ps.take n)) y).isSome=true then grpA k e3 (ps.take n) else grpA k e3 (ps.take n) ++ [(y,.int .i64 k)]):=by
          show _=_
          obtain ⟨hk',rfl⟩:=List.getElem?_eq_some_iff.1 hx
          rw [List.take_succ_eq_append_getElem hk',grpA_snoc]
         have lk:=lookV_ok (P:=Tryz.prog) Tryz.underlying194 Tryz.underlying3 wr (w.heap.size+1+1+1+1) (grpA k e3 (ps.take n)) y (.int .i64 0) (Tryz.zeroInt wr) HT.out.m3
         clear hx
         cases hgv:getV (grpA k e3 (ps.take n)) y with
         | some u =>
          rw [hgv] at HNX lk
          rw [if_pos (by rfl)] at HNX
          simp only [Option.getD_some,Option.isSome_some] at lk
          rw [← HNX.out] at HT
          go_wp2_with fail
          go_roundw
          case rel=>exact ⟨n+1,by omega,by go_num,HT.out,HO.out⟩
          case measure=>simp [intOf]; omega
         | none =>
          rw [hgv] at HNX lk
          rw [if_neg (by simp)] at HNX
          simp only [Option.getD_none,Option.isSome_none] at lk
          have up:=insV (P:=Tryz.prog) Tryz.underlying194 Tryz.underlying3 wr _ _ y (.int .i64 k) HT.out.m3 hgv
          rw [← HNX.out] at up
          have HT2:=Lib.hid (HT.out.put3 (grpA k e3 (ps.take (n+1))))
          have HO2:=Lib.hid (HO.out.trans (putV_only wr (w.heap.size+1+1+1+1) (grpA k e3 (ps.take (n+1)))))
          generalize putV wr (w.heap.size+1+1+1+1) (grpA k e3 (ps.take (n+1)))=w5 at *
          clear hgv HNX
          go_wp2_with fail
          go_roundw
          case rel=>exact ⟨n+1,by omega,by go_num,HT2.out,HO2.out⟩
          case measure=>simp [intOf]; omega
        ·obtain rfl:n=ps.length:=by omega
         rw [List.take_of_length_le (Nat.le_refl _),← HGN.out] at HT
         go_wp2_with fail
         go_roundw
         case rel=>exact ⟨k+1,by omega,by go_num,HT.out,HVR.out,HKW.out⟩
         case measure=>simp [intOf]; omega
      ·obtain rfl:k=c.order.length:=by omega
       rw [List.take_of_length_le (Nat.le_refl _)] at HT
       have t0:wr.cell? ⟨w.heap.size+1+1+1+1+1,0,none⟩=some (.map (some (w.heap.size+1+1))):=HT.out.tab.cell 0 _ rfl
       have t1:wr.cell? ⟨w.heap.size+1+1+1+1+1,1,none⟩=some (.map (some (w.heap.size+1+1+1))):=HT.out.tab.cell 1 _ rfl
       have t2:wr.cell? ⟨w.heap.size+1+1+1+1+1,2,none⟩=some (.map (some (w.heap.size+1+1+1+1))):=HT.out.tab.cell 2 _ rfl
       have t3:wr.cell? ⟨w.heap.size+1+1+1+1+1,3,none⟩=some (.int .i64 c.order.length):=HT.out.tab.cell 3 _ rfl
       have zt:=HT.out.tab.lt
       have r0:wr.cell? ⟨w.heap.size+1,0,none⟩=some (.map none):=HT.out.res.cell 0 _ rfl
       have r1:wr.cell? ⟨w.heap.size+1,1,none⟩=some (.map none):=HT.out.res.cell 1 _ rfl
       have r2:wr.cell? ⟨w.heap.size+1,2,none⟩=some (.map none):=HT.out.res.cell 2 _ rfl
       have r3:wr.cell? ⟨w.heap.size+1,3,none⟩=some (.int .i64 0):=HT.out.res.cell 3 _ rfl
       have f0:=HT.out.res.free 0
       have f1:=HT.out.res.free 1
       have f2:=HT.out.res.free 2
       have f3:=HT.out.res.free 3
       have zr:=HT.out.res.lt
       go_wp2_with fail
       have hO:Only (fun i=>i=w.heap.size+1) wr ((((wr.setCell ⟨w.heap.size+1,0,none⟩ (.map (some (w.heap.size+1+1)))).setCell ⟨w.heap.size+1,1,none⟩ (.map (some (w.heap.size+1+1+1)))).setCell ⟨w.heap.size+1,2,none⟩ (.map (some (w.heap.size+1+1+1+1)))).setCell ⟨w.heap.size+1,3,none⟩ (.int .i64 c.order.length)) :=
        ((((Only.setCell _ 0 _).trans (Only.setCell _ 1 _)).trans (Only.setCell _ 2 _)).trans (Only.setCell _ 3 _))
       refine bodyPost_ret (v:=.agg #[.map (some (w.heap.size+1+1)),.map (some (w.heap.size+1+1+1)),.map (some (w.heap.size+1+1+1+1)),.int .i64 c.order.length]) (by simp [results,Tryz.results144,go_sem,r0,r1,r2,r3,zr]) rfl ?_
       refine ⟨_,rfl,⟨_,_,_,es,rfl,?_,HT.out.m2.only hO (by omega),HVR.out.blk HVF.out (by omega) hO,HT.out.m3.only hO (by omega)⟩,only_kept HKW.out hO (by omega)⟩
       rw [HXE.out,HE1.out]
       exact HT.out.m1.only hO (by omega)
end Go.Proofs.YtmcoomlkbgiboaaGreatDoor

/- rank, key and Key of collate. Conditions: lengths. -/
set_option linter.all false
namespace Go.Proofs.YtmcoomlkbgiboaaGreatDoor
open Go.RowKit

set_option maxRecDepth 100000 in
theorem ptsF_range (l:Bs):∀ (n k:Nat),l.length - k≤n→∀ y∈ptsF l k,0≤y∧y≤1114111∧(y<55296∨57343<y)
 | 0,k,hk,y,hy=>by rw [ptsF_out l k (by omega)] at hy; cases hy
 | n+1,k,hk,y,hy=>by
  by_cases q:k<l.length
  ·rw [ptsF_in l k q] at hy
   rcases List.mem_cons.1 hy with rfl | hy
   ·exact dec_valid (bs l) k
   ·have hb:=dec_bounds (bs l) k (by simpa using q)
    exact ptsF_range l n _ (by omega) y hy
  ·rw [ptsF_out l k q] at hy; cases hy
set_option maxRecDepth 100000 in
theorem pts_range (l:Bs):∀ y∈ptsL l,0≤y∧y≤1114111∧(y<55296∨57343<y):=ptsF_range l _ 0 (Nat.le_refl _)
set_option maxRecDepth 100000 in
theorem val_range {c:ColT} {x:Int} {ys:List Int} (h:valI c x=some ys):∀ y∈ys,0≤y∧y≤1114111∧(y<55296∨57343<y):=by
 unfold valI at h
 cases hf:c.ranks.find? (fun p=>ptsL p.1 == [x]) with
 | none=>rw [hf] at h; cases h
 | some p=>rw [hf] at h; cases h; exact pts_range p.2
theorem val_len {c:ColT} (hs:SmallC c) {x:Int} {ys:List Int} (h:valI c x=some ys):ys.length≤1000:=by
 unfold valI at h
 cases hf:c.ranks.find? (fun p=>ptsL p.1 == [x]) with
 | none=>rw [hf] at h; cases h
 | some p =>
  rw [hf] at h; cases h
  have:=(hs.2.2.2.2 p (List.mem_of_find?_eq_some hf)).2
  have h2:=ptsL_len p.2
  simp only; omega
set_option maxRecDepth 100000 in
set_option maxHeartbeats 1600000 in
theorem rank_any (v:Value) (c:ColT) (x:Int) (w:World) (hv:TabR w v c) (hs:SmallC c) (hx0:0≤x) (hx1:x≤1114111) :
  Calls Tryz.prog 193 #[v,.int .i64 x] w fun e w'=>e=.returned (.int .i64 (rankI c x))∧Kept w w':=by
 obtain ⟨m1,m2,m3,es,rfl,h1,h2,h3,h4⟩:=hv
 have hn:=hs.2.1
 have HR:Hid (rankI c x=if x=32 then 0 else match grpI c x with
  | some i=>(i:Int)+1
  | none=>(c.order.length:Int)+1+x):=rfl
 have hlen:∀ i,grpI c x=some i→i<c.order.length:=fun i h=>by
  unfold grpI at h
  exact (List.findIdx?_eq_some_iff_getElem.1 h).1
 have lk:=lookV_ok (P:=Tryz.prog) Tryz.underlying194 Tryz.underlying3 (w.alloc (.cells #[.map (some m1),.map (some m2),.map (some m3),.int .i64 c.order.length] 196)) m3 (grpV c) x (.int .i64 0) (Tryz.zeroInt _) (h4.kept (kept_alloc _ _))
 rw [grpV_is] at lk
 generalize rankI c x=R at *
 generalize c.order.length=n at *
 clear h1 h2 h3 h4
 by_cases h32:x=32
 ·rw [if_pos h32] at HR
  subst h32
  clear lk
  go_enter Tryz.func193,Tryz.ntmps193
  go_wp2_with fail
  go_ret
  exact ⟨ret_int HR.out.symm,kept_alloc _ _⟩
 rw [if_neg h32] at HR
 have h32':(x == 32)=false:=by simpa using h32
 cases hgi:grpI c x with
 | none =>
  rw [hgi] at HR lk
  simp only [Option.map_none,Option.getD_none,Option.isSome_none] at lk
  have HR2:Hid (R=(n:Int)+1+x):=HR
  clear HR hgi hlen
  go_enter Tryz.func193,Tryz.ntmps193
  go_wp2_with fail
  go_ret
  exact ⟨ret_int HR2.out.symm,kept_alloc _ _⟩
 | some i =>
  have hi:=hlen i hgi
  rw [hgi] at HR lk
  simp only [Option.map_some,Option.getD_some,Option.isSome_some] at lk
  have HR2:Hid (R=(i:Int)+1):=HR
  clear HR hgi hlen
  go_enter Tryz.func193,Tryz.ntmps193
  go_wp2_with fail
  go_ret
  exact ⟨ret_int HR2.out.symm,kept_alloc _ _⟩
theorem keyI_at (c:ColT) (s:Bs) (k:Nat) (h:k<s.length):(ptsF s k).flatMap (keyI1 c)=keyI1 c (dec (bs s) k).1 ++ (ptsF s (k+(dec (bs s) k).2.toNat)).flatMap (keyI1 c):=by
 rw [ptsF_in s k h,List.flatMap_cons]
def RowQ (xs:List Int) (w:World) (e:Ending) (w':World):Prop:=∃ v,e=.returned v∧w'.ownsRow w.heap.size 3 1 v xs.length (intC xs)∧Kept w w'
set_option maxRecDepth 100000 in
set_option maxHeartbeats 6400000 in
theorem key_row (v:Value) (c:ColT) (s:Bs) (w:World) (hv:TabR w v c) (hs:SmallC c) (hl:s.length≤100000) :
  Calls Tryz.prog 146 #[v,.string (bs s)] w (RowQ (keyI c s) w):=by
 obtain ⟨i0,hi,hz0,hz1,hz2⟩:=info_parts Tryz.infoInt
 have HTR:=Lib.hid hv
 have HRK:=Lib.hid (fun w' x (h:Kept w w') h0 h1=>rank_any v c x w' (hv.kept h) hs h0 h1)
 obtain ⟨m1,m2,m3,es,rfl,h1,h2,h3,h4⟩:=hv
 have HM1:=Lib.hid h1
 have HM2:=Lib.hid h2
 have HVR:=Lib.hid h3
 have HVL:Hid (∀ x ys,valI c x=some ys→ys.length≤1000∧∀ y∈ys,0≤y∧y≤1114111∧(y<55296∨57343<y)):=fun x ys h=>⟨val_len hs h,val_range h⟩
 clear h1 h2 h3 h4
 have H0:Hid (keyI c s=[] ++ (ptsF s 0).flatMap (keyI1 c)):=by show _=_; rw [ptsF_zero]; rfl
 have HB0:=Lib.hid (Blk.new w 196 #[.map (some m1),.map (some m2),.map (some m3),.int .i64 c.order.length])
 have HK0:=Lib.hid (kept_alloc w (.cells #[.map (some m1),.map (some m2),.map (some m3),.int .i64 c.order.length] 196))
 unfold RowQ
 go_enter Tryz.func146,Tryz.ntmps146
 go_wp2_with fail
 go_loopw [5] (fun v wr=>∃ (pos:Nat) (xs:List Int),pos≤s.length∧xs.length≤1000 * pos∧wr.heap[w.heap.size+1]? = some (.stringIter (bs s) pos)∧wr.ownsRow (w.heap.size+2) 3 1 v xs.length (intC xs)∧Hid (keyI c s=xs ++ (ptsF s pos).flatMap (keyI1 c))∧Hid (Blk wr w.heap.size 196 #[.map (some m1),.map (some m2),.map (some m3),.int .i64 c.order.length])∧Hid (Kept w wr)) (fun _ wr=>s.length - wr.iterPos (w.heap.size+1))
 case atStart=>exact ⟨0,[],Nat.zero_le _,Nat.zero_le _,by have h:=World.iter_heap (w.alloc (.cells #[.map (some m1),.map (some m2),.map (some m3),.int .i64 c.order.length] 196)) (bs s) 0; simpa using h,World.ownsRow_nil _ _ _ _,H0.out,HB0.out.alloc _,HK0.out.trans (kept_alloc _ _)⟩
 case round =>
  obtain ⟨pos,xs,hp,hxl,hit,hown,HA,HB,HK⟩:=hrel
  have hip:wr.iterPos (w.heap.size+1)=pos:=by simp [World.iterPos,hit]
  have hsz:w.heap.size+1<wr.heap.size:=by
   rcases Nat.lt_or_ge (w.heap.size+1) wr.heap.size with q | q
   ·exact q
   ·rw [Array.getElem?_eq_none q] at hit; cases hit
  by_cases hlt:pos<s.length
  ·have nx:=fun ty=>run_next_k (P:=Tryz.prog) wr (w.heap.size+1) (bs s) pos ty hit hlt
   have hb:=dec_bounds (bs s) pos hlt
   have hdv:=dec_valid (bs s) pos
   have HP:=Lib.hid (keyI_at c s pos hlt)
   have hitW:(wr.iterAt (w.heap.size+1) (bs s) (pos+(dec (bs s) pos).2.toNat)).heap[w.heap.size+1]? = some (.stringIter (bs s) (pos+(dec (bs s) pos).2.toNat)):=Lib.iterAt_heap wr (w.heap.size+1) (bs s) pos _ hit
   have hkW:Kept w (wr.iterAt (w.heap.size+1) (bs s) (pos+(dec (bs s) pos).2.toNat)):=Lib.below_iterAt HK.out (by omega) (bs s) _
   have hoW:=own_iterAtC hown hit (bs s) (pos+(dec (bs s) pos).2.toNat)
   have hbW:=HB.out.onl (only_iterAt wr (w.heap.size+1) (bs s) (pos+(dec (bs s) pos).2.toNat)) (by omega)
   have hzW:(wr.iterAt (w.heap.size+1) (bs s) (pos+(dec (bs s) pos).2.toNat)).heap.size=wr.heap.size:=Lib.iterAt_size ..
   obtain ⟨x,n,hd⟩:∃ c n,dec (bs s) pos=(c,n):=⟨(dec (bs s) pos).1,(dec (bs s) pos).2,rfl⟩
   rw [hd] at nx hb hdv HP hitW hkW hoW hbW hzW
   simp only at nx hb hdv HP hitW hkW hoW hbW hzW
   obtain ⟨b1,b2,b3,b4,b5⟩:=hb
   simp only [bs_size] at b5
   obtain ⟨hx0,hx1,_⟩:=hdv
   obtain ⟨W,HW⟩:∃ W,Hid (wr.iterAt (w.heap.size+1) (bs s) (pos+n.toNat)=W):=⟨_,rfl⟩
   simp only [HW.out] at nx hitW hkW hoW hbW hzW
   have HITW:=Lib.hid hitW
   have HKW:=Lib.hid hkW
   have HOW:=Lib.hid hoW
   have HBW:=Lib.hid hbW
   have HIP:=Lib.hid hip
   have hszW:w.heap.size+1<W.heap.size:=by omega
   have t0:W.cell? ⟨w.heap.size,0,none⟩=some (.map (some m1)):=hbW.cell 0 _ rfl
   have t1:W.cell? ⟨w.heap.size,1,none⟩=some (.map (some m2)):=hbW.cell 1 _ rfl
   have t2:W.cell? ⟨w.heap.size,2,none⟩=some (.map (some m3)):=hbW.cell 2 _ rfl
   have t3:W.cell? ⟨w.heap.size,3,none⟩=some (.int .i64 c.order.length):=hbW.cell 3 _ rfl
   have lk1:=lookV (P:=Tryz.prog) Tryz.underlying116 Tryz.underlying3 W m1 (setV (ptsL c.ignore)) x (.bool false) (Tryz.zeroBool W) (HM1.out.kept hkW)
   rw [setV_has] at lk1
   have HK1:Hid (keyI1 c x=if (ptsL c.ignore).contains x=true then [] else match valI c x with
    | some v=>v.map (rankI c)
    | none=>[rankI c x]):=rfl
   clear hitW hkW hoW hbW hzW hd hip hit hown HK HB
   cases hct:(ptsL c.ignore).contains x
   case true =>
    rw [hct] at lk1 HK1
    rw [if_pos rfl] at HK1
    have hown:=HOW.out
    go_wp2_with fail
    go_roundw
    case rel=>exact ⟨pos+n.toNat,xs,by omega,by omega,HITW.out,hown,by show _=_; rw [HA.out,HP.out,HK1.out]; simp,HBW.out,HKW.out⟩
    case measure=>rw [HIP.out]; have:=HITW.out; simp [World.iterPos,this]; omega
   rw [hct] at lk1 HK1
   rw [if_neg (by simp)] at HK1
   have lk2:=lookV_ok (P:=Tryz.prog) Tryz.underlying193 Tryz.underlying3 W m2 es x (.slice none 0 0) (Tryz.zeroInts W) (HM2.out.kept HKW.out)
   have HVX:=Lib.hid (HVR.out x)
   cases hval:valI c x with
   | none =>
    rw [hval] at HVX HK1
    have hgn:getV es x=none:=HVX.out
    rw [hgn] at lk2
    simp only [Option.getD_none,Option.isSome_none] at lk2
    have HK2:Hid (keyI1 c x=[rankI c x]):=HK1
    have HRX:=Lib.hid (fun w' h=>HRK.out w' x h hx0 hx1)
    generalize rankI c x=r at *
    clear hval hgn HK1
    go_wp2_with fail
    refine (HRX.out _ HKW.out).mono ?_
    rintro e w3 ⟨rfl,hk3⟩
    have HK3:=Lib.hid (HKW.out.trans hk3)
    have HB3:=Lib.hid (HBW.out.kept hk3)
    have HIT3:Hid (w3.heap[w.heap.size+1]? = some (.stringIter (bs s) (pos+n.toNat))):=by
     show _=_
     rw [hk3.block _ hszW]; exact HITW.out
    have hown:=own_kept HOW.out hk3
    have hsz3:W.heap.size≤w3.heap.size:=hk3.size
    clear hk3 t0 t1 t2 t3
    go_wp2_with (at_builtin; refine wpList_append_own _ rfl _ _ 199 rfl (w.heap.size+2) 3 i0 (.int .i64 0) 1 8 Tryz.underlying199 hi hz0 hz1 hz2 rfl (by decide) _ _ _ rfl (hown.alloc _) ⟨w3.heap.size,0,none⟩ 1 1 [.int .i64 r] rfl rfl (new_cells _ #[.int .i64 r] _ _ (by simp)) (by intro u hu; simp at hu; subst hu; rfl) (by unfold maxLen; omega) (by omega) (by simp; omega) ?_; intro v' w4 hown2 hgrow2 _)
    have hb4:Below (w.heap.size+2) w3 w4:=((Below.refl _ w3).alloc (by omega) _).trans (grown_below (hown.alloc _) hgrow2 (by simp; omega))
    have HK4:=Lib.hid (HK3.out.trans' (hb4.mono (by omega)))
    have HB4:Hid (Blk w4 w.heap.size 196 #[.map (some m1),.map (some m2),.map (some m3),.int .i64 c.order.length]):=(hb4.block _ (by omega)).trans HB3.out
    have HIT4:Hid (w4.heap[w.heap.size+1]? = some (.stringIter (bs s) (pos+n.toNat))):=(hb4.block _ (by omega)).trans HIT3.out
    rw [← intC_snoc] at hown2
    have HO:=Lib.hid hown2
    clear hown2 hgrow2 hown hb4
    go_wp2_with fail
    go_roundw
    case rel=>exact ⟨pos+n.toNat,xs ++ [r],by omega,by simp; omega,HIT4.out,by simpa using HO.out,by show _=_; rw [HA.out,HP.out,HK2.out]; simp,HB4.out,HK4.out⟩
    case measure=>rw [HIP.out]; have:=HIT4.out; simp [World.iterPos,this]; omega
   | some ys =>
    rw [hval] at HVX HK1
    have hgs:∃ u,getV es x=some u∧Ints w u ys:=HVX.out
    obtain ⟨u,hu,hiu⟩:=hgs
    rw [hu] at lk2
    simp only [Option.getD_some,Option.isSome_some] at lk2
    have HK2:Hid (keyI1 c x=ys.map (rankI c)):=HK1
    obtain ⟨hyl,hyr⟩:=HVL.out x ys hval
    have HYR:=Lib.hid hyr
    have HIU:=Lib.hid hiu
    obtain ⟨au,cu,rfl,hcu⟩:=hiu.form
    have hown:=HOW.out
    clear hval hu HK1 HVX hyr hiu
    go_wp2_with fail
    clear t0 t1 t2 t3
    go_loopw [5,41] (fun v i wr2=>∃ (j:Nat) (zs:List Int),j≤ys.length∧i=.int .i64 j∧zs.length=xs.length+j∧wr2.heap[w.heap.size+1]? = some (.stringIter (bs s) (pos+n.toNat))∧wr2.ownsRow (w.heap.size+2) 3 1 v zs.length (intC zs)∧Hid (zs=xs ++ (ys.take j).map (rankI c))∧Hid (Blk wr2 w.heap.size 196 #[.map (some m1),.map (some m2),.map (some m3),.int .i64 c.order.length])∧Hid (Kept w wr2)) (fun _ i _=>ys.length - (intOf i).toNat)
    case atStart=>exact ⟨0,xs,Nat.zero_le _,rfl,rfl,HITW.out,hown,by show _=_; simp,HBW.out,HKW.out⟩
    case round =>
     clear hown HOW lk1 lk2 nx
     obtain ⟨j,zs,hj,rfl,hzl,hit2,hown,HZ,HB2,HK2'⟩:=hrel
     have hsz2:w.heap.size+1<wr.heap.size:=by
      rcases Nat.lt_or_ge (w.heap.size+1) wr.heap.size with q | q
      ·exact q
      ·rw [Array.getElem?_eq_none q] at hit2; cases hit2
     have HIT2:=Lib.hid hit2
     clear hit2
     by_cases hlt2:j<ys.length
     ·obtain ⟨y,hy⟩:∃ y,ys[j]? = some y:=⟨_,List.getElem?_eq_getElem hlt2⟩
      obtain ⟨g,o,rfl,hg,d0⟩:=(HIU.out.kept HK2'.out).cell_of j y hy
      obtain ⟨hy0,hy1,_⟩:=HYR.out y (List.mem_of_getElem? hy)
      have HZ2:Hid (zs ++ [rankI c y]=xs ++ (ys.take (j+1)).map (rankI c)):=by
       show _=_
       obtain ⟨hj',rfl⟩:=List.getElem?_eq_some_iff.1 hy
       rw [List.take_succ_eq_append_getElem hj',HZ.out,List.map_append,List.append_assoc]; rfl
      have HRX:=Lib.hid (fun w' h=>HRK.out w' y h hy0 hy1)
      generalize rankI c y=r at *
      have t0:wr.cell? ⟨w.heap.size,0,none⟩=some (.map (some m1)):=HB2.out.cell 0 _ rfl
      have t1:wr.cell? ⟨w.heap.size,1,none⟩=some (.map (some m2)):=HB2.out.cell 1 _ rfl
      have t2:wr.cell? ⟨w.heap.size,2,none⟩=some (.map (some m3)):=HB2.out.cell 2 _ rfl
      have t3:wr.cell? ⟨w.heap.size,3,none⟩=some (.int .i64 c.order.length):=HB2.out.cell 3 _ rfl
      have HOWN:=Lib.hid hown
      clear hy hown
      go_wp2_with fail
      refine (HRX.out _ HK2'.out).mono ?_
      rintro e w3 ⟨rfl,hk3⟩
      have HK3:=Lib.hid (HK2'.out.trans hk3)
      have HB3:=Lib.hid (HB2.out.kept hk3)
      have HIT3:Hid (w3.heap[w.heap.size+1]? = some (.stringIter (bs s) (pos+n.toNat))):=by
       show _=_
       rw [hk3.block _ hsz2]; exact HIT2.out
      have hown:=own_kept HOWN.out hk3
      have hsz3:wr.heap.size≤w3.heap.size:=hk3.size
      clear hk3 t0 t1 t2 t3 d0 hg
      go_wp2_with (at_builtin; refine wpList_append_own _ rfl _ _ 199 rfl (w.heap.size+2) 3 i0 (.int .i64 0) 1 8 Tryz.underlying199 hi hz0 hz1 hz2 rfl (by decide) _ _ _ rfl (hown.alloc _) ⟨w3.heap.size,0,none⟩ 1 1 [.int .i64 r] rfl rfl (new_cells _ #[.int .i64 r] _ _ (by simp)) (by intro u hu; simp at hu; subst hu; rfl) (by unfold maxLen; omega) (by omega) (by simp; omega) ?_; intro v' w4 hown2 hgrow2 _)
      have hb4:Below (w.heap.size+2) w3 w4:=((Below.refl _ w3).alloc (by omega) _).trans (grown_below (hown.alloc _) hgrow2 (by simp; omega))
      have HK4:=Lib.hid (HK3.out.trans' (hb4.mono (by omega)))
      have HB4:Hid (Blk w4 w.heap.size 196 #[.map (some m1),.map (some m2),.map (some m3),.int .i64 c.order.length]):=(hb4.block _ (by omega)).trans HB3.out
      have HIT4:Hid (w4.heap[w.heap.size+1]? = some (.stringIter (bs s) (pos+n.toNat))):=(hb4.block _ (by omega)).trans HIT3.out
      rw [← intC_snoc] at hown2
      have HO:=Lib.hid hown2
      clear hown2 hgrow2 hown hb4
      go_wp2_with fail
      go_roundw
      case rel=>exact ⟨j+1,zs ++ [r],by omega,by go_num,by simp; omega,HIT4.out,by simpa using HO.out,HZ2.out,HB4.out,HK4.out⟩
      case measure=>simp [intOf]; omega
     ·obtain rfl:j=ys.length:=by omega
      have HZZ:Hid (zs=xs ++ keyI1 c x):=by
       show _=_
       have h:=HZ.out
       rw [List.take_of_length_le (Nat.le_refl _)] at h
       rw [h,HK2.out]
      have HOWN:=Lib.hid hown
      clear hown
      go_wp2_with fail
      go_roundw
      case rel=>exact ⟨pos+n.toNat,zs,by omega,by omega,HIT2.out,HOWN.out,by show _=_; rw [HA.out,HP.out,HZZ.out]; simp,HB2.out,HK2'.out⟩
      case measure=>rw [HIP.out]; have:=HIT2.out; simp [World.iterPos,this]; omega
  ·have nx:=fun ty=>run_next_k_end (P:=Tryz.prog) wr (w.heap.size+1) (bs s) pos ty hit hlt
   have HI:=Lib.hid (own_mono hown (show w.heap.size≤w.heap.size+2 by omega))
   have HL:Hid (keyI c s=xs):=by
    show _=_
    rw [HA.out,ptsF_out s pos hlt]; simp
   clear hown
   go_wp2_with fail
   go_ret
   exact ⟨_,rfl,by rw [HL.out]; exact HI.out,HK.out⟩
theorem key_own (v:Value) (c:ColT) (s:Bs) (w:World) (hv:TabR w v c) (hs:SmallC c) (hl:s.length≤100000) :
  Calls Tryz.prog 146 #[v,.string (bs s)] w (IntsQ (keyI c s) w) :=
 (key_row v c s w hv hs hl).mono fun _ _ ⟨v,h1,h2,h3⟩=>⟨v,h1,Ints.own h2,fun g hg=>(h2.lt g hg).1,h3⟩
theorem key_any (v:Value) (c:ColT) (s:Bs) (w:World) (hv:TabR w v c) (hs:SmallC c) (hl:s.length≤100000) :
  Calls Tryz.prog 146 #[v,.string (bs s)] w (IntsP (keyI c s) w) :=
 (key_own v c s w hv hs hl).mono fun _ _ ⟨v,h1,h2,_,h3⟩=>⟨v,h1,h2,h3⟩
end Go.Proofs.YtmcoomlkbgiboaaGreatDoor

/- How texts compare: the library's word and the plain one. No condition. -/
set_option linter.all false
namespace Go.Proofs.YtmcoomlkbgiboaaGreatDoor
open Go.RowKit

theorem u8_lt (a b:UInt8):a<b↔(a.toNat:Int)<(b.toNat:Int):=by rw [UInt8.lt_iff_toNat_lt]; omega
theorem cmpB_lib:∀ a b:Bs,Lib.compareBytes a b=cmpB a b
 | [],[]=>rfl
 | [],_ :: _=>rfl
 | _ :: _,[]=>rfl
 | a :: x,b :: y=>by
  have ih:=cmpB_lib x y
  unfold cmpB at ih ⊢
  rw [Lib.compareBytes,List.map_cons,List.map_cons,cmpI,ih]
  simp only [u8_lt]
end Go.Proofs.YtmcoomlkbgiboaaGreatDoor

/- slices.Compare at whole numbers; Compare of collate. Conditions: lengths. -/
set_option linter.all false
namespace Go.Proofs.YtmcoomlkbgiboaaGreatDoor
open Go.RowKit

set_option maxRecDepth 100000 in
set_option maxHeartbeats 3200000 in
theorem slcmp_any (v u:Value) (x y:List Int) (w:World) (hv:Ints w v x) (hu:Ints w u y) (hx:x.length≤200000000) (hy:y.length≤200000000) :
  Calls Tryz.prog 145 #[v,u] w fun e w'=>e=.returned (.int .i64 (cmpI x y))∧w=w':=by
 have HV:=Lib.hid hv
 have HU:=Lib.hid hu
 obtain ⟨a,c,rfl,hc⟩:=hv.form
 obtain ⟨b,d,rfl,hd⟩:=hu.form
 clear hv hu
 have HAT:=Lib.hid (cmpI_at x y)
 have HEN:=Lib.hid (cmpI_end x y)
 obtain ⟨R,HR⟩:∃ R,Hid (cmpI x y=R):=⟨_,rfl⟩
 rw [HR.out]
 go_enter Tryz.func145,Tryz.ntmps145
 go_wp2_with fail
 go_loop [11] (fun i=>∃ k:Nat,k≤x.length∧k≤y.length∧i=.int .i64 k∧Hid (cmpI (x.drop k) (y.drop k)=R)) (fun i=>x.length - (intOf i).toNat)
 case atStart=>exact ⟨0,Nat.zero_le _,Nat.zero_le _,rfl,HR.out⟩
 case round =>
  obtain ⟨k,hk,hk2,rfl,HA⟩:=hrel
  by_cases hlt:k<x.length
  ·obtain ⟨p,hp⟩:∃ z,x[k]? = some z:=⟨_,List.getElem?_eq_getElem hlt⟩
   obtain ⟨g,o,rfl,hg,d0⟩:=HV.out.cell_of k p hp
   by_cases hlt2:k<y.length
   ·obtain ⟨q,hq⟩:∃ z,y[k]? = some z:=⟨_,List.getElem?_eq_getElem hlt2⟩
    obtain ⟨g2,o2,rfl,hg2,d1⟩:=HU.out.cell_of k q hq
    have HS:Hid (R=if p<q then -1 else if q<p then 1 else cmpI (x.drop (k+1)) (y.drop (k+1))):=by
     show _=_
     rw [← HA.out,HAT.out k hlt hlt2]
     obtain ⟨_,rfl⟩:=List.getElem?_eq_some_iff.1 hp
     obtain ⟨_,rfl⟩:=List.getElem?_eq_some_iff.1 hq
     rfl
    have HC:=Lib.hid (fun w=>Tryz.cmp_Compare_int p q w)
    unfold Lib.compareInt at HC
    clear hp hq
    by_cases h1:p<q
    ·rw [if_pos h1] at HS HC
     go_wp2_with fail
     refine (HC.out _).mono ?_
     rintro e w' ⟨rfl,rfl⟩
     go_wp2_with fail
     go_ret
     exact ⟨ret_int HS.out.symm,rfl⟩
    rw [if_neg h1] at HS HC
    by_cases h2:q<p
    ·rw [if_pos h2] at HS HC
     go_wp2_with fail
     refine (HC.out _).mono ?_
     rintro e w' ⟨rfl,rfl⟩
     go_wp2_with fail
     go_ret
     exact ⟨ret_int HS.out.symm,rfl⟩
    rw [if_neg h2] at HS
    rw [if_neg (show ¬ p > q from h2)] at HC
    go_wp2_with fail
    refine (HC.out _).mono ?_
    rintro e w' ⟨rfl,rfl⟩
    go_wp2_with fail
    go_round
    case rel=>exact ⟨k+1,by omega,by omega,by go_num,HS.out.symm⟩
    case measure=>simp [intOf]; omega
   ·have HS:Hid (R=1):=by
     show _=_
     rw [← HA.out,HEN.out k hk hk2 (fun q=>hlt2 q.2),if_neg (by omega),if_pos (by omega)]
    clear hp
    go_wp2_with fail
    go_ret
    exact ⟨ret_int HS.out.symm,rfl⟩
  ·have HS:Hid (R=if x.length<y.length then -1 else 0):=by
    show _=_
    rw [← HA.out,HEN.out k hk hk2 (fun q=>hlt q.1)]
    by_cases q:x.length<y.length
    ·rw [if_pos q,if_pos q]
    ·rw [if_neg q,if_neg q,if_neg (by omega)]
   by_cases h1:x.length<y.length
   ·rw [if_pos h1] at HS
    go_wp2_with fail
    go_ret
    exact ⟨ret_int HS.out.symm,rfl⟩
   ·rw [if_neg h1] at HS
    go_wp2_with fail
    go_ret
    exact ⟨ret_int HS.out.symm,rfl⟩
theorem keyI_len {c:ColT} (hs:SmallC c) (s:Bs):(keyI c s).length≤1000 * s.length:=by
 have h1:∀ x,(keyI1 c x).length≤1000:=fun x=>by
  unfold keyI1
  split
  ·simp
  ·split
   ·rename_i v hv
    have:=val_len hs hv
    simpa using this
   ·simp
 have h2:∀ xs:List Int,(xs.flatMap (keyI1 c)).length≤1000 * xs.length:=by
  intro xs
  induction xs with
  | nil=>simp
  | cons x xs ih =>
   have:=h1 x
   rw [List.flatMap_cons,List.length_append,List.length_cons]; omega
 have h3:=h2 (ptsL s)
 have h4:=ptsL_len s
 unfold keyI; omega
theorem cmpC_lib (c:ColT) (a b:Bs):cmpC c a b=if cmpI (keyI c a) (keyI c b)≠0 then cmpI (keyI c a) (keyI c b) else Lib.compareBytes a b:=by
 rw [cmpB_lib]; rfl
set_option maxRecDepth 100000 in
set_option maxHeartbeats 6400000 in
theorem compare_any (vR vO:Value) (c:ColT) (a b:Bs) (w:World) (hv:Col w vR vO c) (hs:SmallC c) (ha:a.length≤100000) (hb:b.length≤100000) :
  Calls Tryz.prog 95 #[colV vR vO c.ignore,.string (bs a),.string (bs b)] w fun e w'=>e=.returned (.int .i64 (cmpC c a b))∧Kept w w':=by
 have HV:=Lib.hid hv
 have HT:=Lib.hid (fun w h=>tables_any vR vO c w h hs)
 have HKA:=Lib.hid (fun v w h=>key_any v c a w h hs ha)
 have HKB:=Lib.hid (fun v w h=>key_any v c b w h hs hb)
 have hla:=keyI_len hs a
 have hlb:=keyI_len hs b
 have HE:=Lib.hid (cmpC_lib c a b)
 have HEQ:=Lib.hid (fun h:a=b=>(show cmpC c a b=0 from (cmpC_zero c a b).2 h))
 have HSC:=Lib.hid (fun w=>Tryz.strings_Compare (bs a) (bs b) w)
 simp only [bs_data] at HSC
 obtain ⟨aR,cR,rfl,lR⟩:=hv.1.form
 obtain ⟨aO,cO,rfl,lO⟩:=hv.2.form
 clear hv
 have HK0:=Lib.hid (kept_alloc w (.cells #[.slice aR c.ranks.length cR,.slice aO c.order.length cO,.string (bs c.ignore)] 88))
 generalize cmpC c a b=R at *
 generalize keyI c a=ka at *
 generalize keyI c b=kb at *
 generalize Lib.compareBytes a b=S at *
 unfold IntsP at HKA HKB
 by_cases hab:a=b
 ·have HR:=Lib.hid (HEQ.out hab)
  subst hab
  go_enter Tryz.func95,Tryz.ntmps95
  go_wp2_with fail
  go_ret
  exact ⟨ret_int HR.out.symm,HK0.out⟩
 have hab':(a == b)=false:=by simpa using hab
 go_enter Tryz.func95,Tryz.ntmps95
 go_wp2_with fail
 refine (HT.out _ (HV.out.kept HK0.out)).mono ?_
 rintro e w1 ⟨v1,rfl,ht1,hk1⟩
 have HT1:=Lib.hid ht1
 have HK1:=Lib.hid (HK0.out.trans hk1)
 obtain ⟨m1,m2,m3,es,rfl,_,_,_,_⟩:=ht1
 clear hk1
 have HB1:=Lib.hid (Blk.new w1 196 #[.map (some m1),.map (some m2),.map (some m3),.int .i64 c.order.length])
 have HK2:=Lib.hid (HK1.out.trans (kept_alloc w1 (.cells #[.map (some m1),.map (some m2),.map (some m3),.int .i64 c.order.length] 196)))
 have HT2:=Lib.hid (HT1.out.kept (kept_alloc w1 (.cells #[.map (some m1),.map (some m2),.map (some m3),.int .i64 c.order.length] 196)))
 go_wp2_with fail
 generalize w1.alloc (.cells #[.map (some m1),.map (some m2),.map (some m3),.int .i64 c.order.length] 196)=w2 at *
 generalize w1.heap.size=B at *
 have t0:w2.cell? ⟨B,0,none⟩=some (.map (some m1)):=HB1.out.cell 0 _ rfl
 have t1:w2.cell? ⟨B,1,none⟩=some (.map (some m2)):=HB1.out.cell 1 _ rfl
 have t2:w2.cell? ⟨B,2,none⟩=some (.map (some m3)):=HB1.out.cell 2 _ rfl
 have t3:w2.cell? ⟨B,3,none⟩=some (.int .i64 c.order.length):=HB1.out.cell 3 _ rfl
 have zt:=HB1.out.lt
 have HCC:Hid (∀ w',Kept w2 w'→(w'.cell? ⟨B,0,none⟩=some (.map (some m1))∧w'.cell? ⟨B,1,none⟩=some (.map (some m2))∧w'.cell? ⟨B,2,none⟩=some (.map (some m3))∧w'.cell? ⟨B,3,none⟩=some (.int .i64 c.order.length))∧B<w'.heap.size∧Kept w2 w'):=fun w' h =>
  ⟨⟨(h.cell (p:=⟨B,0,none⟩) zt).trans t0,(h.cell (p:=⟨B,1,none⟩) zt).trans t1,(h.cell (p:=⟨B,2,none⟩) zt).trans t2,(h.cell (p:=⟨B,3,none⟩) zt).trans t3⟩,Nat.lt_of_lt_of_le zt h.size,h⟩
 have hkd:Kept w2 w2.drew:=kept_drewN w2 1
 have HCMP:=Lib.hid (fun v u w (h1:Ints w v ka) (h2:Ints w u kb)=>slcmp_any v u ka kb w h1 h2 (by omega) (by omega))
 go_region_held3 (fun w'=>(w'.cell? ⟨B,0,none⟩=some (.map (some m1))∧w'.cell? ⟨B,1,none⟩=some (.map (some m2))∧w'.cell? ⟨B,2,none⟩=some (.map (some m3))∧w'.cell? ⟨B,3,none⟩=some (.int .i64 c.order.length))∧B<w'.heap.size∧Kept w2 w')
  ((refine HCC.out _ ?_; assumption))
  (first
   | (go_at_call 145; refine (HCMP.out _ _ _ HIA2.out HIB2.out).mono ?_; rintro e w5 ⟨rfl,rfl⟩)
   | (go_at_call_of 146 (Value.string (bs b)); refine (HKB.out _ _ (HT2.out.kept kA)).mono ?_; rintro e w4 ⟨vB,rfl,hiB,hk4⟩; have kB:Kept w2 w4:=kA.trans hk4; have HIA2:=Lib.hid (HIA.out.kept hk4); have HIB2:=Lib.hid hiB; obtain ⟨aB,cB,rfl,lB⟩:=hiB.form; clear hk4 hiB)
   | (go_at_call_of 146 (Value.string (bs a)); refine (HKA.out _ _ (HT2.out.kept hkd)).mono ?_; rintro e w3 ⟨vA,rfl,hiA,hk3⟩; have kA:Kept w2 w3:=hkd.trans hk3; have HIA:=Lib.hid hiA; obtain ⟨aA,cA,rfl,lA⟩:=hiA.form; clear hk3 hiA))
 all_goals
  have HKZ:=Lib.hid (HK2.out.trans kB)
  clear HCC kA kB HIA2 HIB2
  generalize cmpI ka kb=D at *
  by_cases hD:D=0
  ·subst hD
   rw [if_neg (by simp)] at HE
   go_wp2_with fail
   refine (HSC.out _).mono ?_
   rintro e w6 ⟨rfl,rfl⟩
   go_wp2_with fail
   go_ret
   exact ⟨ret_int HE.out.symm,HKZ.out⟩
  ·rw [if_pos hD] at HE
   have hD':(D == 0)=false:=by simpa using hD
   go_wp2_with fail
   go_ret
   exact ⟨ret_int HE.out.symm,HKZ.out⟩
end Go.Proofs.YtmcoomlkbgiboaaGreatDoor
