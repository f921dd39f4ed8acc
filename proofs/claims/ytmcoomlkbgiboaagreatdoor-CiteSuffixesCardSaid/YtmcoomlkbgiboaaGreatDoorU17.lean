/- letters, ruleString of collate, Count of chars: the letters of a text, rule texts. Conditions: lengths. -/
import Derived.Test.YtmcoomlkbgiboaaGreatDoorU16
import Derived.Test.YtmcoomlkbgiboaaGreatDoorU15
import Derived.Test.YtmcoomlkbgiboaaGreatDoorU06
import Derived.Test.YtmcoomlkbgiboaaGreatDoorU08
set_option linter.all false
set_option maxRecDepth 100000
set_option maxHeartbeats 1600000
namespace Go.Proofs.YtmcoomlkbgiboaaGreatDoor
open Go.RowKit
theorem zhO (l:Bs) (w:World) (hl:l.length<=1100000):Calls Tryz.prog 192 #[.string (bs l)] w (IntsP (zeV l) w):=by
 obtain ⟨i0,hi,hz0,hz1,hz2⟩:=info_parts Tryz.infoInt;have H0:Hid (zeV l=[] ++ zsQ l 0):=(by show _=_;rw[zlJ];rfl);unfold IntsP;go_enter Tryz.func192,Tryz.ntmps192;go_wp2_with (at_make;refine wpList_make_own _ rfl _ _ 199 rfl w.heap.size 3 i0 (.int .i64 0) 1 Tryz.underlying199 hi hz0 hz1 .i64 .i64 l.length l.length rfl rfl rfl (by rw[hz2];omega) (by unfold maxLen;omega) (by simp) ?_;intro w1 hown hgrow);have HK1:Kept w w1:=Below.grown (Below.refl _ _) hgrow (Nat.le_refl _) (fun j hj=>by cases hj);have hs1:w.heap.size<=w1.heap.size:=HK1.size;go_loopw [3] (fun v wr=>∃ (pos:Nat) (xs:List Int),pos<=l.length/\wr.heap[w1.heap.size]? = some (.stringIter (bs l) pos)/\wr.ownsRow w.heap.size 3 1 v xs.length (zyD xs)/\Hid (zeV l=xs ++ zsQ l pos)/\xs.length<=pos/\Kept w wr) (fun _ wr=>l.length - wr.iterPos w1.heap.size)
 case atStart=>exact ⟨0,[],Nat.zero_le _,World.iter_heap _ _ _,zaU hown (zaA _ _),H0,Nat.le_refl _,HK1.trans (zaA _ _)⟩
 case round =>
  clear hown hgrow;obtain ⟨pos,xs,hp,hit,hown,HA,hxl,hk⟩:=hrel;have hip:wr.iterPos w1.heap.size=pos:=(by simp [World.iterPos,hit]);have hsz:w1.heap.size<wr.heap.size:=by
   rcases Nat.lt_or_ge w1.heap.size wr.heap.size with q|q
   ·exact q
   ·rw[Array.getElem?_eq_none q] at hit;cases hit
  by_cases hlt:pos<l.length
  ·have nx:=fun ty=>zc0 (P:=Tryz.prog) wr w1.heap.size (bs l) pos ty hit hlt;have hb:=za6 (bs l) pos hlt;have HP:=Hd (zoL l pos hlt);have hitW:(wr.iterAt w1.heap.size (bs l) (pos+(dec (bs l) pos).2.toNat)).heap[w1.heap.size]? = some (.stringIter (bs l) (pos+(dec (bs l) pos).2.toNat)):=Lib.iterAt_heap wr w1.heap.size (bs l) pos _ hit;have hkW:Kept w (wr.iterAt w1.heap.size (bs l) (pos+(dec (bs l) pos).2.toNat)):=Lib.below_iterAt hk hs1 (bs l) _;have hoW:=zhN hown hit (bs l) (pos+(dec (bs l) pos).2.toNat);have hne:=zhM hown hit;have hzW:(wr.iterAt w1.heap.size (bs l) (pos+(dec (bs l) pos).2.toNat)).heap.size=wr.heap.size:=Lib.iterAt_size ..;obtain ⟨c,n,hd⟩:∃ c n,dec (bs l) pos=(c,n):=⟨(dec (bs l) pos).1,(dec (bs l) pos).2,rfl⟩;rw[hd] at nx hb HP hitW hkW hoW hzW;simp only at nx hb HP hitW hkW hoW hzW;obtain ⟨b1,b2,b3,b4,b5⟩:=hb;simp only[zeE] at b5;obtain ⟨W,HW⟩:∃ W,Hid (wr.iterAt w1.heap.size (bs l) (pos+n.toNat)=W):=⟨_,rfl⟩;simp only[HW.out] at nx hitW hkW hoW hzW;have HITW:=Hd hitW;have HKW:=Hd hkW;have HNE:=Hd hne;have HIP:=Hd hip;have hszW:w1.heap.size<W.heap.size:=(by omega);have hwW:w.heap.size<=W.heap.size:=(by omega);clear hitW hkW hd hip hit hk hown hne hzW;go_wp2_with (at_builtin;refine wpList_append_own _ rfl _ _ 199 rfl w.heap.size 3 i0 (.int .i64 0) 1 8 Tryz.underlying199 hi hz0 hz1 hz2 rfl (by decide) _ _ _ rfl (hoW.alloc _) ⟨W.heap.size,0,none⟩ 1 1 [.int .i64 c] rfl rfl ?_ ?_ ?_ ?_ ?_ ?_)
   ·exact zaV _ #[.int .i64 c] _ _ (by simp)
   ·intro u hu;simp at hu;subst hu;rfl
   ·unfold maxLen;omega
   ·omega
   ·simp;omega
   intro v' w2 hown2 hgrow2 _;have HB2:=Hd ((HKW.out.trans (zaA W _)).trans' (zaG (hoW.alloc _) hgrow2 (by simp;omega)));have hit2:w2.heap[w1.heap.size]? = some (.stringIter (bs l) (pos+n.toNat)):=by
    rw[hgrow2.block w1.heap.size (by simp;omega) HNE.out,Below.heap_alloc _ _ _ hszW];exact HITW.out
   have HIT2:=Hd hit2;rw[<- ziC] at hown2;have HO:=Hd hown2;clear hown2 hgrow2 hoW hit2;go_wp2_with fail;go_roundw
   case rel=>exact ⟨pos+n.toNat,xs ++ [c],by omega,HIT2.out,by simpa using HO.out,by show _=_;rw[HA.out,HP.out];simp,by simp;omega,HB2.out⟩
   case measure=>rw[HIP.out];have:=HIT2.out;simp [World.iterPos,this];omega
  ·have nx:=fun ty=>zbR (P:=Tryz.prog) wr w1.heap.size (bs l) pos ty hit hlt;have HI:=Hd (Ints.own hown);have HL:Hid (zeV l=xs):=by
    show _=_;rw[HA.out,ziA l pos hlt,List.append_nil]
   have HK:=Hd hk;clear hown hk;go_wp2_with fail;go_ret;exact ⟨_,rfl,by rw[HL.out];exact HI.out,HK.out⟩
def Col (w:World) (vR vO:Value) (c:ColT):Prop:=Prs w vR c.ranks/\Strs w vO c.order
theorem Col.kept {w w':World} {vR vO:Value} {c:ColT} (h:Col w vR vO c) (k:Kept w w'):Col w' vR vO c:=⟨h.1.kept k,h.2.kept k⟩
abbrev zAM (vR vO:Value) (ig:Bs):Value:=.agg #[vR,vO,.string (bs ig)]
def SmallC (c:ColT):Prop:=c.ranks.length<=1000/\c.order.length<=1000/\c.ignore.length<=1000/\(∀ s∈c.order,s.length<=1000)/\∀ p∈c.ranks,p.1.length<=1000/\p.2.length<=1000
theorem MapV.no_cell {w:World} {m:Nat} {es:List (Int × Value)} (h:MapV w m es) (o:Nat):w.cell? ⟨m,o,none⟩=none:=by unfold MapV at h;simp [World.cell?,h]
theorem Ints.map {w w':World} {v:Value} {xs:List Int} {m:Nat} {es:List (Int × Value)} (h:Ints w v xs) (hm:MapV w m es) (k:Only (fun i=>i=m) w w'):Ints w' v xs:=by
 obtain ⟨a,c,hv,hc,h3⟩:=h;refine ⟨a,c,hv,hc,fun q=>?_⟩;obtain ⟨g,o,ha,hg,hcell⟩:=h3 q;have hne:g≠m:=by
  rintro rfl;have h0:=hcell 0 _ (List.getElem?_eq_getElem q);rw[hm.no_cell] at h0;cases h0
 exact ⟨g,o,ha,Nat.lt_of_lt_of_le hg k.size,fun j x hx=>(k.cell g _ hg hne).trans (hcell j x hx)⟩
theorem Blk.onl {S:Nat->Prop} {w w':World} {g:Nat} {t:TypeId} {cs:Array Value} (h:Blk w g t cs) (k:Only S w w') (hs:¬ S g):Blk w' g t cs:=(k.block g h.lt hs).trans h
theorem Blk.no_map {w:World} {g m:Nat} {t:TypeId} {cs:Array Value} {es:List (Int × Value)} (h:Blk w g t cs) (hm:MapV w m es):g≠m:=by
 rintro rfl;unfold Blk at h;unfold MapV at hm;rw[h] at hm;cases hm
theorem Tryz.zeroBool (w:World):(zeroValue 4).run Tryz.prog w=.ok (.bool false) w:=by kernel_rfl
theorem Strs.cell_of {w:World} {a:Option Addr} {n c:Nat} {xs:List Bs} (h:Strs w (.slice a n c) xs) (k:Nat) (x:Bs) (hx:xs[k]? = some x):∃ g o,a=some ⟨g,o,none⟩/\g<w.heap.size/\w.cell? ⟨g,o+k,none⟩=some (.string (bs x))/\n=xs.length/\xs.length<=c:=by
 obtain ⟨a',c',hv,hc,h3⟩:=h;obtain ⟨rfl,rfl,rfl⟩:=Value.slice.inj hv;obtain ⟨hk,_⟩:=List.getElem?_eq_some_iff.1 hx;obtain ⟨g,o,ha,hg,hcell⟩:=h3 (by omega);exact ⟨g,o,ha,hg,hcell k x hx,rfl,hc⟩
theorem Prs.cell_of {w:World} {a:Option Addr} {n c:Nat} {ps:List Pr} (h:Prs w (.slice a n c) ps) (k:Nat) (p:Pr) (hx:ps[k]? = some p):∃ g o,a=some ⟨g,o,none⟩/\g<w.heap.size/\w.cell? ⟨g,o+k * 2,none⟩=some (.string (bs p.1))/\w.cell? ⟨g,o+k * 2+1,none⟩=some (.string (bs p.2))/\n=ps.length/\ps.length<=c:=by
 obtain ⟨a',c',hv,hc,h3⟩:=h;obtain ⟨rfl,rfl,rfl⟩:=Value.slice.inj hv;obtain ⟨hk,_⟩:=List.getElem?_eq_some_iff.1 hx;obtain ⟨g,o,ha,hg,hcell⟩:=h3 (by omega);obtain ⟨h0,h1⟩:=hcell k p hx;exact ⟨g,o,ha,hg,h0,h1,rfl,hc⟩
theorem Strs.form {w:World} {v:Value} {xs:List Bs} (h:Strs w v xs):∃ a c,v=.slice a xs.length c/\xs.length<=c:=by
 obtain ⟨a,c,hv,hc,_⟩:=h;exact ⟨a,c,hv,hc⟩
theorem Prs.form {w:World} {v:Value} {ps:List Pr} (h:Prs w v ps):∃ a c,v=.slice a ps.length c/\ps.length<=c:=by
 obtain ⟨a,c,hv,hc,_⟩:=h;exact ⟨a,c,hv,hc⟩
theorem Ints.form {w:World} {v:Value} {ps:List Int} (h:Ints w v ps):∃ a c,v=.slice a ps.length c/\ps.length<=c:=by
 obtain ⟨a,c,hv,hc,_⟩:=h;exact ⟨a,c,hv,hc⟩
theorem Ints.cell_of {w:World} {a:Option Addr} {n c:Nat} {xs:List Int} (h:Ints w (.slice a n c) xs) (k:Nat) (x:Int) (hx:xs[k]? = some x):∃ g o,a=some ⟨g,o,none⟩/\g<w.heap.size/\w.cell? ⟨g,o+k,none⟩=some (.int .i64 x):=by
 obtain ⟨a',c',hv,hc,h3⟩:=h;obtain ⟨rfl,rfl,rfl⟩:=Value.slice.inj hv;obtain ⟨hk,_⟩:=List.getElem?_eq_some_iff.1 hx;obtain ⟨g,o,ha,hg,hcell⟩:=h3 (by omega);exact ⟨g,o,ha,hg,hcell k x hx⟩
theorem zcB {m:Nat} {a b c:World} (h:Kept a b) (k:Only (fun i=>i=m) b c) (hm:a.heap.size<=m):Kept a c:=h.trans' (k.below h.size (fun i e=>e ▸ hm))
end Go.Proofs.YtmcoomlkbgiboaaGreatDoor
